/-
  Functions of the program as functions of Lean. No condition.
-/
import Derived.Test.YtobeamaaifgllaaThingManyP0
namespace Go.Proofs.Ytobeamaaifgllaa
open Go Go.Rx
set_option maxRecDepth 100000
set_option linter.unusedVariables false
set_option linter.unusedSimpArgs false
set_option linter.unnecessarySimpa false
-- 7: vedette/vedettelaw7.ThingRows
def F7_e : Bool → PV × List Ob := fun r => (.one (lb r), [])
def F7_l24 (n : Nat) (s9 : ByteArray) (l10 : (List Thing)) : Nat → Int → Int → Option Bool
  | 0, _, _ => none
  | m + 1, i22, i23 =>
    if decide (i23 < ((l10).length : Int)) then
      if 0 ≤ (i22 : Int) ∧ (i22 : Int) ≤ (s9.size : Int) then
        (F30 n (s9.extract i22.toNat s9.size)).bind fun (r25 : (Thing × Int × Int)) =>
        if r25.2.2 != 0 then
          some false
        else
          (ix l10 i23).bind fun (x26 : Thing) =>
          (F25 n r25.1 x26).bind fun (r27 : Bool) =>
          if !(r27) then
            some false
          else
            (F7_l24 n s9 l10 m) (IntKind.wrap .i64 (i22 + r25.2.1)) (IntKind.wrap .i64 (i23 + 1))
      else none
    else
      some (i22 == (s9.size : Int))
theorem F7_l24_ok (n : Nat) (s9 : ByteArray) (l10 : (List Thing)) : ∀ (m : Nat) (i22 : Int) (i23 : Int), SimL Try.prog D (n + 8) m pc7_c69 [(3, qs s9), (4, .one (.osl 100004 0 0 (l10).length)), (8, qj i22), (9, qj i23)] [(100004, some (.arr 28 Thing.cod.sz 0 (l10).length (getOf Thing.cod l10)))] (F7_l24 n s9 l10 m i22 i23) (QB 2 (QT Try.prog D (n + 8) pc7_c75 (QF false pc7_r 0 F7_e))) := by
  intro m_l24
  induction m_l24 with
  | zero => intro i22 i23; exact SimL.zero'  rfl
  | succ m_l24 ih_l24 =>
    intro i22 i23
    refine SimL.succ ?_
    unfold F7_l24
    refine Sim.seq (.seq (.region [(3, qs s9), (4, .one (.osl 100004 0 0 (l10).length)), (8, qj i22), (9, qj i23)] [(100004, some (.arr 28 Thing.cod.sz 0 (l10).length (getOf Thing.cod l10)))] (by kernel_rfl) (.run 4 [(55, qb (decide (i23 < ((l10).length : Int)))), (54, qj ((l10).length : Int)), (53, .one (.osl 100004 0 0 (l10).length)), (52, qj i23)] [] (by kernel_rfl) (.done (by kernel_rfl) (.thenN (.cond (decide (i23 < ((l10).length : Int))) (by kernel_rfl) ?_ ?_))))))
    · refine Sim.skip (.thenN (.seq (.block (.seq (.region0 (.run 2 [(60, qj i22), (59, qs s9)] [] (by kernel_rfl) (.guard (c := 0 ≤ (i22 : Int) ∧ (i22 : Int) ≤ (s9.size : Int)) ⟨some 61, POp.prim (Prim.slice 9 true false) [Operand.tmp 59, Operand.tmp 60], none, []⟩ [(61, qs (s9.extract i22.toNat s9.size))] [] (by kernel_rfl) (fun hc => pOp_eff (by kernel_rfl) (by kernel_rfl) (eff_prim (by kernel_rfl) (pr_cutL (s := s9) (k := .i64) (a := i22) Try.underlying9 hc))) (.bind (og := F30 n (s9.extract i22.toNat s9.size)) ⟨some 62, POp.call true [[]] 30 [Operand.tmp 61], none, []⟩ (fun r25 => [(62, .tup [.agg (Thing.cells r25.1), qj r25.2.1, qj r25.2.2])]) (fun r25 => []) (by kernel_rfl) (fun r25 hr => pOp_eff (by kernel_rfl) (by kernel_rfl) (eff_call (ARGS := [qs (s9.extract i22.toNat s9.size)]) (by kernel_rfl) (args_clean (by kernel_rfl) args_nil) (F30_ok n (s9.extract i22.toNat s9.size) r25 hr) (by kernel_rfl))) (fun r25 => ?_)))))))))
      refine SimI.run 8 [(12, qj r25.2.2), (11, qj r25.2.1), (10, qp 10 0), (65, qj r25.2.2), (64, qj r25.2.1), (63, .agg (Thing.cells r25.1)), (58, .tup [.agg (Thing.cells r25.1), qj r25.2.1, qj r25.2.2])] [(10, some (.cells (Thing.cells r25.1))), (10, some (.cells [lj 0, lj 0, lj 0, lj 0, ls be, lj 0, ls be, lj 0, ls be, lj 0, ls be]))] (by kernel_rfl) (.done (by kernel_rfl) (.thenN (.seq (.seq (.region0 (.run 3 [(68, qb (r25.2.2 != 0)), (67, qb (r25.2.2 != 0)), (66, qj r25.2.2)] [] (by kernel_rfl) (.split 68 (r25.2.2 != 0) (by kernel_rfl) ?_ ?_)))))))
      · exact SimI.run 8 [(76, qb true), (75, .tup []), (74, .tup []), (73, .tup []), (72, .tup []), (71, .tup []), (70, .tup []), (69, .tup [])] [] (by kernel_rfl) (.done (by kernel_rfl) (.thenN (.condT (by kernel_rfl) (.seq (.region0 (.run 1 [(2, qb false)] [] (by kernel_rfl) (.done (by kernel_rfl) (.thenN (.ret (.thenR (.blockR (.thenR (.loopR (.blockR (.thenR (.fin (by kernel_rfl)))))))))))))))))
      · refine SimI.run 3 [(71, qj i23), (70, .one (.osl 100004 0 0 (l10).length)), (69, .agg (Thing.cells r25.1))] [] (by kernel_rfl) (.bindh (og := ix l10 i23) ⟨some 72, POp.iaddrS 11 (Operand.tmp 70) (Operand.tmp 71), some (68, false), [(70, Hint.obj 100004), (71, Hint.imm)]⟩ (fun x26 => [(72, .one (.aptr 100004 0 ((i23).toNat) 0))]) (fun x26 => []) (by kernel_rfl) (fun x26 hr => pOp_eff (by kernel_rfl) (by kernel_rfl) (eff_idxO (c := Thing.cod) (l := l10) (g := 0) (el := 28) (k := .i64) (n := i23) (by kernel_rfl) (by kernel_rfl) (by kernel_rfl) (by kernel_rfl) hr)) (fun x26 hx26 => ?_))
        refine SimI.step ⟨some 73, POp.load true 11 (Operand.tmp 72), some (68, false), [(72, Hint.obj 100004)]⟩ [(73, .agg (Thing.cells x26))] [] (by kernel_rfl) (pOp_eff (by kernel_rfl) (by kernel_rfl) (eff_loadO (c := Thing.cod) (a := x26) (l := l10) (key := 100004) (g := 0) (el := 28) (off := 0) (i := (i23).toNat) (by kernel_rfl) (by kernel_rfl) (ix_some hx26).2.2.2 (by kernel_rfl))) (.bind (og := F25 n r25.1 x26) ⟨some 74, POp.call false [[], []] 25 [Operand.tmp 69, Operand.tmp 73], some (68, false), [(69, Hint.imm), (73, Hint.imm)]⟩ (fun r27 => [(74, qb r27)]) (fun r27 => []) (by kernel_rfl) (fun r27 hr => pOp_eff (by kernel_rfl) (by kernel_rfl) (eff_call (ARGS := [.agg (Thing.cells r25.1), .agg (Thing.cells x26)]) (by kernel_rfl) (args_clean (by kernel_rfl) (args_clean (by kernel_rfl) args_nil)) (F25_ok n r25.1 x26 r27 hr) (by kernel_rfl))) (fun r27 => ?_))
        refine SimI.run 2 [(76, qb (!(r27))), (75, qb (!(r27)))] [] (by kernel_rfl) (.done (by kernel_rfl) (.thenN (.cond (!(r27)) (by kernel_rfl) ?_ ?_)))
        · exact Sim.seq (.region0 (.run 1 [(2, qb false)] [] (by kernel_rfl) (.done (by kernel_rfl) (.thenN (.ret (.thenR (.blockR (.thenR (.loopR (.blockR (.thenR (.fin (by kernel_rfl)))))))))))))
        · refine Sim.skip (.thenN (.region0 (.run 4 [(8, qj (IntKind.wrap .i64 (i22 + r25.2.1))), (79, qj (IntKind.wrap .i64 (i22 + r25.2.1))), (78, qj r25.2.1), (77, qj i22)] [] (by kernel_rfl) (.done (by kernel_rfl) (.blockN (.thenN (.region0 (.run 3 [(9, qj (IntKind.wrap .i64 (i23 + 1))), (57, qj (IntKind.wrap .i64 (i23 + 1))), (56, qj i23)] [] (by kernel_rfl) (.done (by kernel_rfl) (.loopN (.pre (ts := [3, 4, 8, 9]) (os := [10, 100004]) (ow := []) [(3, qs s9), (4, .one (.osl 100004 0 0 (l10).length)), (8, qj (IntKind.wrap .i64 (i22 + r25.2.1))), (9, qj (IntKind.wrap .i64 (i23 + 1)))] [(100004, some (.arr 28 Thing.cod.sz 0 (l10).length (getOf Thing.cod l10)))] (by kernel_rfl) (by kernel_rfl) (by kernel_rfl) ?_)))))))))))
          exact ih_l24 (IntKind.wrap .i64 (i22 + r25.2.1)) (IntKind.wrap .i64 (i23 + 1))
    · exact Sim.exit (.thenX (.loopX (.blockX (.thenN (.seq (.region0 (.run 5 [(2, qb (i22 == (s9.size : Int))), (83, qb (i22 == (s9.size : Int))), (82, qj (s9.size : Int)), (81, qs s9), (80, qj i22)] [] (by kernel_rfl) (.done (by kernel_rfl) (.thenN (.ret (.fin (by kernel_rfl))))))))))))

def F7_l12 (n : Nat) (a0 : (List Thing)) : Nat → ByteArray → (List Thing) → Int → Option Bool
  | 0, _, _, _ => none
  | m + 1, s9, l10, i11 =>
    if decide (i11 < ((a0).length : Int)) then
      (ix a0 i11).bind fun (x13 : Thing) =>
      (F21 n x13).bind fun (r14 : (ByteArray × Int)) =>
      (ix a0 i11).bind fun (x15 : Thing) =>
      (F24 n x15).bind fun (r16 : Bool) =>
      if !((r14.2 == 0) == r16) then
        some false
      else
        if r14.2 == 0 then
          if s9.size + r14.1.size ≤ 9223372036854775807 then
            (ix a0 i11).bind fun (x17 : Thing) =>
            if ((l10).length + 1) * 120 ≤ maxCells ∧ (l10).length + 1 ≤ maxCells then
              (F7_l12 n a0 m) (s9 ++ r14.1) (l10 ++ [x17]) (IntKind.wrap .i64 (i11 + 1))
            else none
          else none
        else
          (F7_l12 n a0 m) s9 l10 (IntKind.wrap .i64 (i11 + 1))
    else
      F7_l24 n s9 l10 (n + 8) 0 0
theorem F7_l12_ok (n : Nat) (a0 : (List Thing)) : ∀ (m : Nat) (s9 : ByteArray) (l10 : (List Thing)) (i11 : Int), SimL Try.prog D (n + 8) m pc7_c44 [(0, .one (vw Thing.cod a0)), (3, qs s9), (4, .one (.osl 100004 0 0 (l10).length)), (5, qj i11)] [(100004, some (.arr 28 Thing.cod.sz 0 (l10).length (getOf Thing.cod l10)))] (F7_l12 n a0 m s9 l10 i11) (QB 0 (QT Try.prog D (n + 8) pc7_c77 (QF false pc7_r 0 F7_e))) := by
  intro m_l12
  induction m_l12 with
  | zero => intro s9 l10 i11; exact SimL.zero'  rfl
  | succ m_l12 ih_l12 =>
    intro s9 l10 i11
    refine SimL.succ ?_
    unfold F7_l12
    refine Sim.seq (.seq (.region [(0, .one (vw Thing.cod a0)), (3, qs s9), (4, .one (.osl 100004 0 0 (l10).length)), (5, qj i11)] [(100004, some (.arr 28 Thing.cod.sz 0 (l10).length (getOf Thing.cod l10)))] (by kernel_rfl) (.run 4 [(21, qb (decide (i11 < ((a0).length : Int)))), (20, qj ((a0).length : Int)), (19, .one (vw Thing.cod a0)), (18, qj i11)] [] (by kernel_rfl) (.done (by kernel_rfl) (.thenN (.cond (decide (i11 < ((a0).length : Int))) (by kernel_rfl) ?_ ?_))))))
    · refine Sim.skip (.thenN (.seq (.block (.seq (.region0 (.run 2 [(26, qj i11), (25, .one (vw Thing.cod a0))] [] (by kernel_rfl) (.bind (og := ix a0 i11) ⟨some 27, POp.iaddrS 11 (Operand.tmp 25) (Operand.tmp 26), none, []⟩ (fun x13 => [(27, .one (.eptr (Thing.cod.enc x13) 0))]) (fun x13 => []) (by kernel_rfl) (fun x13 hr => pOp_eff (by kernel_rfl) (by kernel_rfl) (eff_idx (c := Thing.cod) (l := a0) (k := .i64) (n := i11) (by kernel_rfl) (by kernel_rfl) (by kernel_rfl) hr)) (fun x13 => ?_))))))))
      refine SimI.run 1 [(28, .agg (Thing.cells x13))] [] (by kernel_rfl) (.bind (og := F21 n x13) ⟨some 29, POp.call true [[]] 21 [Operand.tmp 28], none, []⟩ (fun r14 => [(29, .tup [qs r14.1, qj r14.2])]) (fun r14 => []) (by kernel_rfl) (fun r14 hr => pOp_eff (by kernel_rfl) (by kernel_rfl) (eff_call (ARGS := [.agg (Thing.cells x13)]) (by kernel_rfl) (args_clean (by kernel_rfl) args_nil) (F21_ok n x13 r14 hr) (by kernel_rfl))) (fun r14 => ?_))
      refine SimI.run 5 [(7, qj r14.2), (6, qs r14.1), (31, qj r14.2), (30, qs r14.1), (24, .tup [qs r14.1, qj r14.2])] [] (by kernel_rfl) (.done (by kernel_rfl) (.thenN (.seq (.seq (.region0 (.run 4 [(35, qj i11), (34, .one (vw Thing.cod a0)), (33, qb (r14.2 == 0)), (32, qj r14.2)] [] (by kernel_rfl) (.bind (og := ix a0 i11) ⟨some 36, POp.iaddrS 11 (Operand.tmp 34) (Operand.tmp 35), none, []⟩ (fun x15 => [(36, .one (.eptr (Thing.cod.enc x15) 0))]) (fun x15 => []) (by kernel_rfl) (fun x15 hr => pOp_eff (by kernel_rfl) (by kernel_rfl) (eff_idx (c := Thing.cod) (l := a0) (k := .i64) (n := i11) (by kernel_rfl) (by kernel_rfl) (by kernel_rfl) hr)) (fun x15 => ?_))))))))
      refine SimI.run 1 [(37, .agg (Thing.cells x15))] [] (by kernel_rfl) (.bind (og := F24 n x15) ⟨some 38, POp.call true [[]] 24 [Operand.tmp 37], none, []⟩ (fun r16 => [(38, qb r16)]) (fun r16 => []) (by kernel_rfl) (fun r16 hr => pOp_eff (by kernel_rfl) (by kernel_rfl) (eff_call (ARGS := [.agg (Thing.cells x15)]) (by kernel_rfl) (args_clean (by kernel_rfl) args_nil) (F24_ok n x15 r16 hr) (by kernel_rfl))) (fun r16 => ?_))
      refine SimI.run 1 [(39, qb (!((r14.2 == 0) == r16)))] [] (by kernel_rfl) (.done (by kernel_rfl) (.thenN (.cond (!((r14.2 == 0) == r16)) (by kernel_rfl) ?_ ?_)))
      · exact Sim.seq (.region0 (.run 1 [(2, qb false)] [] (by kernel_rfl) (.done (by kernel_rfl) (.thenN (.ret (.thenR (.blockR (.thenR (.loopR (.blockR (.thenR (.fin (by kernel_rfl)))))))))))))
      · refine Sim.skip (.thenN (.seq (.region0 (.run 2 [(41, qb (r14.2 == 0)), (40, qj r14.2)] [] (by kernel_rfl) (.done (by kernel_rfl) (.thenN (.cond (r14.2 == 0) (by kernel_rfl) ?_ ?_)))))))
        · refine Sim.seq (.region0 (.run 2 [(43, qs r14.1), (42, qs s9)] [] (by kernel_rfl) (.guard (c := s9.size + r14.1.size ≤ 9223372036854775807) ⟨some 44, POp.prim (Prim.bin BinOp.add 9 false false) [Operand.tmp 42, Operand.tmp 43], none, []⟩ [(44, qs (s9 ++ r14.1))] [] (by kernel_rfl) (fun hc => pOp_eff (by kernel_rfl) (by kernel_rfl) (eff_prim (by kernel_rfl) (pr_addS _ _ _ s9 r14.1 hc))) (.run 1 [(3, qs (s9 ++ r14.1))] [] (by kernel_rfl) (.done (by kernel_rfl) (.thenN (.region0 (.run 3 [(47, qj i11), (46, .one (vw Thing.cod a0)), (45, .one (.osl 100004 0 0 (l10).length))] [] (by kernel_rfl) (.bind (og := ix a0 i11) ⟨some 48, POp.iaddrS 11 (Operand.tmp 46) (Operand.tmp 47), none, []⟩ (fun x17 => [(48, .one (.eptr (Thing.cod.enc x17) 0))]) (fun x17 => []) (by kernel_rfl) (fun x17 hr => pOp_eff (by kernel_rfl) (by kernel_rfl) (eff_idx (c := Thing.cod) (l := a0) (k := .i64) (n := i11) (by kernel_rfl) (by kernel_rfl) (by kernel_rfl) hr)) (fun x17 => ?_))))))))))
          refine SimI.run 2 [(50, .one (vw Thing.cod [x17])), (49, .agg (Thing.cells x17))] [] (by kernel_rfl) (.guard (c := ((l10).length + 1) * 120 ≤ maxCells ∧ (l10).length + 1 ≤ maxCells) ⟨some 51, POp.app 100004 28 11 120 (Operand.tmp 45) (Operand.tmp 50), none, []⟩ [(51, .one (.osl 100004 (0 + 1) 0 ((l10 ++ [x17])).length))] [(100004, some (.arr 28 Thing.cod.sz (0 + 1) ((l10 ++ [x17])).length (getOf Thing.cod (l10 ++ [x17]))))] (by kernel_rfl) (fun hc => pOp_eff (by kernel_rfl) (by kernel_rfl) (eff_appO (c := Thing.cod) (g := 0) (l := l10) (a := x17) (by kernel_rfl) (by kernel_rfl) (by kernel_rfl) (by kernel_rfl) hc)) (.run 1 [(4, .one (.osl 100004 (0 + 1) 0 ((l10 ++ [x17])).length))] [] (by kernel_rfl) (.done (by kernel_rfl) (.blockN (.thenN (.region0 (.run 3 [(5, qj (IntKind.wrap .i64 (i11 + 1))), (23, qj (IntKind.wrap .i64 (i11 + 1))), (22, qj i11)] [] (by kernel_rfl) (.done (by kernel_rfl) (.loopN (.pre (ts := [0, 3, 4, 5]) (os := [100004]) (ow := [(false, 4, 0, 100004, 28, 11)]) [(0, .one (vw Thing.cod a0)), (3, qs (s9 ++ r14.1)), (4, .one (.osl 100004 0 0 ((l10 ++ [x17])).length)), (5, qj (IntKind.wrap .i64 (i11 + 1)))] [(100004, some (.arr 28 Thing.cod.sz 0 ((l10 ++ [x17])).length (getOf Thing.cod (l10 ++ [x17]))))] (by kernel_rfl) (by kernel_rfl) (by kernel_rfl) ?_))))))))))
          exact ih_l12 (s9 ++ r14.1) (l10 ++ [x17]) (IntKind.wrap .i64 (i11 + 1))
        · refine Sim.skip (.blockN (.thenN (.region0 (.run 3 [(5, qj (IntKind.wrap .i64 (i11 + 1))), (23, qj (IntKind.wrap .i64 (i11 + 1))), (22, qj i11)] [] (by kernel_rfl) (.done (by kernel_rfl) (.loopN (.pre (ts := [0, 3, 4, 5]) (os := [100004]) (ow := [(false, 4, 0, 100004, 28, 11)]) [(0, .one (vw Thing.cod a0)), (3, qs s9), (4, .one (.osl 100004 0 0 (l10).length)), (5, qj (IntKind.wrap .i64 (i11 + 1)))] [(100004, some (.arr 28 Thing.cod.sz 0 (l10).length (getOf Thing.cod l10)))] (by kernel_rfl) (by kernel_rfl) (by kernel_rfl) ?_)))))))
          exact ih_l12 s9 l10 (IntKind.wrap .i64 (i11 + 1))
    · refine Sim.exit (.thenX (.loopX (.blockX (.thenN (.seq (.region0 (.run 1 [(8, qj 0)] [] (by kernel_rfl) (.done (by kernel_rfl) (.thenN (.seq (.seq (.region0 (.run 1 [(9, qj 0)] [] (by kernel_rfl) (.done (by kernel_rfl) (.thenN (.block (.loop (.pre (ts := [3, 4, 8, 9]) (os := [10, 100004]) (ow := []) [(3, qs s9), (4, .one (.osl 100004 0 0 (l10).length)), (8, qj 0), (9, qj 0)] [(100004, some (.arr 28 Thing.cod.sz 0 (l10).length (getOf Thing.cod l10)))] (by kernel_rfl) (by kernel_rfl) (by kernel_rfl) ?_))))))))))))))))))
      exact F7_l24_ok n s9 l10 (n + 8) 0 0

def F7 (n : Nat) (a0 : (List Thing)) : Option Bool :=
  ((some true)).bind fun (r1 : Bool) =>
  if !(r1) then
    some false
  else
    (F17 n a0).bind fun (r2 : Bool) =>
    if !(r2) then
      some true
    else
      F7_l12 n a0 (n + 8) ByteArray.empty ([] : List Thing) 0
theorem F7_ok (n : Nat) (a0 : (List Thing)) : ∀ r, F7 n a0 = some r → D 7 [.one (vw Thing.cod a0)] [] = some (F7_e r) := by
  refine fn_to (D := D) (n := n + 8) (nt := 84) (rs := pc7_r) (c := pc7_c83) (L := [(0, .one (vw Thing.cod a0))]) (M := []) (k := 0) rfl rfl rfl rfl rfl rfl rfl ?_
  unfold F7
  refine Sim.seq (.region0 (.run 1 [(2, qb false)] [] (by kernel_rfl) (.done (by kernel_rfl) (.thenN (.seq (.seq (.region0 (.bind (og := (some true)) ⟨some 13, POp.call true [] 15 [], none, []⟩ (fun r1 => [(13, qb r1)]) (fun r1 => []) (by kernel_rfl) (fun r1 hr => pOp_eff (by kernel_rfl) (by kernel_rfl) (eff_call (ARGS := []) (by kernel_rfl) (args_nil) (F15_ok n r1 hr) (by kernel_rfl))) (fun r1 => ?_)))))))))
  refine SimI.run 1 [(14, qb (!(r1)))] [] (by kernel_rfl) (.done (by kernel_rfl) (.thenN (.cond (!(r1)) (by kernel_rfl) ?_ ?_)))
  · exact Sim.seq (.region0 (.run 1 [(2, qb false)] [] (by kernel_rfl) (.done (by kernel_rfl) (.thenN (.ret (.thenR (.fin (by kernel_rfl))))))))
  · refine Sim.skip (.thenN (.seq (.seq (.region0 (.run 1 [(15, .one (vw Thing.cod a0))] [] (by kernel_rfl) (.bind (og := F17 n a0) ⟨some 16, POp.call true [[(0, 11)]] 17 [Operand.tmp 15], none, []⟩ (fun r2 => [(16, qb r2)]) (fun r2 => []) (by kernel_rfl) (fun r2 hr => pOp_eff (by kernel_rfl) (by kernel_rfl) (eff_call (ARGS := [.one (vw Thing.cod a0)]) (by kernel_rfl) (args_clean (by kernel_rfl) args_nil) (F17_ok n a0 r2 hr) (by kernel_rfl))) (fun r2 => ?_)))))))
    refine SimI.run 1 [(17, qb (!(r2)))] [] (by kernel_rfl) (.done (by kernel_rfl) (.thenN (.cond (!(r2)) (by kernel_rfl) ?_ ?_)))
    · exact Sim.seq (.region0 (.run 1 [(2, qb true)] [] (by kernel_rfl) (.done (by kernel_rfl) (.thenN (.ret (.thenR (.fin (by kernel_rfl))))))))
    · refine Sim.skip (.thenN (.seq (.region0 (.run 1 [(3, qs be)] [] (by kernel_rfl) (.done (by kernel_rfl) (.thenN (.seq (.region0 (.run 1 [(4, .one (lnil))] [] (by kernel_rfl) (.done (by kernel_rfl) (.thenN (.seq (.seq (.region0 (.run 1 [(5, qj 0)] [] (by kernel_rfl) (.done (by kernel_rfl) (.thenN (.block (.loop (.pre (ts := [0, 3, 4, 5]) (os := [100004]) (ow := [(false, 4, 0, 100004, 28, 11)]) [(0, .one (vw Thing.cod a0)), (3, qs be), (4, .one (.osl 100004 0 0 (([] : List Thing)).length)), (5, qj 0)] [(100004, some (.arr 28 Thing.cod.sz 0 (([] : List Thing)).length (getOf Thing.cod ([] : List Thing))))] (by kernel_rfl) (by kernel_rfl) (by kernel_rfl) ?_))))))))))))))))))))
      exact F7_l12_ok n a0 (n + 8) be ([] : List Thing) 0


-- 8: vedette/vedettelaw7.ThingMany
def F8_e : Bool → PV × List Ob := fun r => (.one (lb r), [])
def F8_l8 (n : Nat) (a0 : Int) (a1 : Int) : Nat → (List Thing) → Int → Option Bool
  | 0, _, _ => none
  | m + 1, l6, i7 =>
    if decide (i7 < IntKind.wrap .i64 (199 + IntKind.wrap .i64 (Int.tmod a0 3))) then
      if ((l6).length + 1) * 120 ≤ maxCells ∧ (l6).length + 1 ≤ maxCells then
        (F8_l8 n a0 a1 m) (l6 ++ [(Thing.mk (IntKind.wrap .i64 (2 * i7)) (Point.mk (Int.tmod i7 64) 0) (A4.mk (Field.mk 0 ByteArray.empty) (Field.mk 0 ByteArray.empty) (Field.mk 0 ByteArray.empty) (Field.mk 0 ByteArray.empty)))]) (IntKind.wrap .i64 (i7 + 1))
      else none
    else
      (F22 n l6).bind fun (r9 : (ByteArray × Int)) =>
      if decide ((200 : Int) < IntKind.wrap .i64 (199 + IntKind.wrap .i64 (Int.tmod a0 3))) then
        if r9.2 == 13 then
          some (r9.1.toList == ByteArray.empty.toList)
        else
          some false
      else
        (F32 n r9.1).bind fun (r10 : ((List Thing) × Int × Int)) =>
        if IntKind.wrap .i64 (IntKind.wrap .i64 (199 + IntKind.wrap .i64 (Int.tmod a0 3)) - 1) ≠ 0 then
          (ix l6 (IntKind.wrap .i64 (Int.tmod (IntKind.wrap .i64 a1) (IntKind.wrap .i64 (IntKind.wrap .i64 (199 + IntKind.wrap .i64 (Int.tmod a0 3)) - 1)) + 1))).bind fun (x11 : Thing) =>
          (ix l6 (Int.tmod (IntKind.wrap .i64 a1) (IntKind.wrap .i64 (IntKind.wrap .i64 (199 + IntKind.wrap .i64 (Int.tmod a0 3)) - 1)))).bind fun (x12 : Thing) =>
          (ix l6 (Int.tmod (IntKind.wrap .i64 a1) (IntKind.wrap .i64 (IntKind.wrap .i64 (199 + IntKind.wrap .i64 (Int.tmod a0 3)) - 1)))).bind fun (x13 : Thing) =>
          (ix ((l6).set ((Int.tmod (IntKind.wrap .i64 a1) (IntKind.wrap .i64 (IntKind.wrap .i64 (199 + IntKind.wrap .i64 (Int.tmod a0 3)) - 1))).toNat) x11) (IntKind.wrap .i64 (Int.tmod (IntKind.wrap .i64 a1) (IntKind.wrap .i64 (IntKind.wrap .i64 (199 + IntKind.wrap .i64 (Int.tmod a0 3)) - 1)) + 1))).bind fun (x14 : Thing) =>
          (F22 n ((((l6).set ((Int.tmod (IntKind.wrap .i64 a1) (IntKind.wrap .i64 (IntKind.wrap .i64 (199 + IntKind.wrap .i64 (Int.tmod a0 3)) - 1))).toNat) x11)).set ((IntKind.wrap .i64 (Int.tmod (IntKind.wrap .i64 a1) (IntKind.wrap .i64 (IntKind.wrap .i64 (199 + IntKind.wrap .i64 (Int.tmod a0 3)) - 1)) + 1)).toNat) x12)).bind fun (r15 : (ByteArray × Int)) =>
          if r9.2 == 0 then
            if r10.2.2 == 0 then
              if r10.2.1 == (r9.1.size : Int) then
                if ((r10.1).length : Int) == (IntKind.wrap .i64 (199 + IntKind.wrap .i64 (Int.tmod a0 3))) then
                  some (r15.2 == 11)
                else
                  some false
              else
                some false
            else
              some false
          else
            some false
        else none
theorem F8_l8_ok (n : Nat) (a0 : Int) (a1 : Int) : ∀ (m : Nat) (l6 : (List Thing)) (i7 : Int), SimL Try.prog D (n + 8) m pc8_c21 [(1, .one (li .u8 a1)), (5, qj (IntKind.wrap .i64 (199 + IntKind.wrap .i64 (Int.tmod a0 3)))), (6, .one (.osl 100006 0 0 (l6).length)), (7, qj i7)] [(100006, some (.arr 28 Thing.cod.sz 0 (l6).length (getOf Thing.cod l6)))] (F8_l8 n a0 a1 m l6 i7) (QB 0 (QT Try.prog D (n + 8) pc8_c45 (QF false pc8_r 0 F8_e))) := by
  intro m_l8
  induction m_l8 with
  | zero => intro l6 i7; exact SimL.zero'  rfl
  | succ m_l8 ih_l8 =>
    intro l6 i7
    refine SimL.succ ?_
    unfold F8_l8
    refine Sim.seq (.seq (.region [(1, .one (li .u8 a1)), (5, qj (IntKind.wrap .i64 (199 + IntKind.wrap .i64 (Int.tmod a0 3)))), (6, .one (.osl 100006 0 0 (l6).length)), (7, qj i7)] [(100006, some (.arr 28 Thing.cod.sz 0 (l6).length (getOf Thing.cod l6)))] (by kernel_rfl) (.run 3 [(24, qb (decide (i7 < IntKind.wrap .i64 (199 + IntKind.wrap .i64 (Int.tmod a0 3))))), (23, qj (IntKind.wrap .i64 (199 + IntKind.wrap .i64 (Int.tmod a0 3)))), (22, qj i7)] [] (by kernel_rfl) (.done (by kernel_rfl) (.thenN (.cond (decide (i7 < IntKind.wrap .i64 (199 + IntKind.wrap .i64 (Int.tmod a0 3)))) (by kernel_rfl) ?_ ?_))))))
    · refine Sim.skip (.thenN (.seq (.block (.region0 (.run 8 [(34, .one (vw Thing.cod [(Thing.mk (IntKind.wrap .i64 (2 * i7)) (Point.mk (Int.tmod i7 64) 0) (A4.mk (Field.mk 0 be) (Field.mk 0 be) (Field.mk 0 be) (Field.mk 0 be)))])), (33, .agg [lj (IntKind.wrap .i64 (2 * i7)), lj (Int.tmod i7 64), lj 0, lj 0, ls be, lj 0, ls be, lj 0, ls be, lj 0, ls be]), (32, .agg [lj (Int.tmod i7 64), lj 0]), (31, qj (Int.tmod i7 64)), (30, qj i7), (29, qj (IntKind.wrap .i64 (2 * i7))), (28, qj i7), (27, .one (.osl 100006 0 0 (l6).length))] [] (by kernel_rfl) (.guard (c := ((l6).length + 1) * 120 ≤ maxCells ∧ (l6).length + 1 ≤ maxCells) ⟨some 35, POp.app 100006 28 11 120 (Operand.tmp 27) (Operand.tmp 34), none, []⟩ [(35, .one (.osl 100006 (0 + 1) 0 ((l6 ++ [(Thing.mk (IntKind.wrap .i64 (2 * i7)) (Point.mk (Int.tmod i7 64) 0) (A4.mk (Field.mk 0 be) (Field.mk 0 be) (Field.mk 0 be) (Field.mk 0 be)))])).length))] [(100006, some (.arr 28 Thing.cod.sz (0 + 1) ((l6 ++ [(Thing.mk (IntKind.wrap .i64 (2 * i7)) (Point.mk (Int.tmod i7 64) 0) (A4.mk (Field.mk 0 be) (Field.mk 0 be) (Field.mk 0 be) (Field.mk 0 be)))])).length (getOf Thing.cod (l6 ++ [(Thing.mk (IntKind.wrap .i64 (2 * i7)) (Point.mk (Int.tmod i7 64) 0) (A4.mk (Field.mk 0 be) (Field.mk 0 be) (Field.mk 0 be) (Field.mk 0 be)))]))))] (by kernel_rfl) (fun hc => pOp_eff (by kernel_rfl) (by kernel_rfl) (eff_appO (c := Thing.cod) (g := 0) (l := l6) (a := (Thing.mk (IntKind.wrap .i64 (2 * i7)) (Point.mk (Int.tmod i7 64) 0) (A4.mk (Field.mk 0 be) (Field.mk 0 be) (Field.mk 0 be) (Field.mk 0 be)))) (by kernel_rfl) (by kernel_rfl) (by kernel_rfl) (by kernel_rfl) hc)) (.run 1 [(6, .one (.osl 100006 (0 + 1) 0 ((l6 ++ [(Thing.mk (IntKind.wrap .i64 (2 * i7)) (Point.mk (Int.tmod i7 64) 0) (A4.mk (Field.mk 0 be) (Field.mk 0 be) (Field.mk 0 be) (Field.mk 0 be)))])).length))] [] (by kernel_rfl) (.done (by kernel_rfl) (.blockN (.thenN (.region0 (.run 3 [(7, qj (IntKind.wrap .i64 (i7 + 1))), (26, qj (IntKind.wrap .i64 (i7 + 1))), (25, qj i7)] [] (by kernel_rfl) (.done (by kernel_rfl) (.loopN (.pre (ts := [1, 5, 6, 7]) (os := [100006]) (ow := [(false, 6, 0, 100006, 28, 11)]) [(1, .one (li .u8 a1)), (5, qj (IntKind.wrap .i64 (199 + IntKind.wrap .i64 (Int.tmod a0 3)))), (6, .one (.osl 100006 0 0 ((l6 ++ [(Thing.mk (IntKind.wrap .i64 (2 * i7)) (Point.mk (Int.tmod i7 64) 0) (A4.mk (Field.mk 0 be) (Field.mk 0 be) (Field.mk 0 be) (Field.mk 0 be)))])).length)), (7, qj (IntKind.wrap .i64 (i7 + 1)))] [(100006, some (.arr 28 Thing.cod.sz 0 ((l6 ++ [(Thing.mk (IntKind.wrap .i64 (2 * i7)) (Point.mk (Int.tmod i7 64) 0) (A4.mk (Field.mk 0 be) (Field.mk 0 be) (Field.mk 0 be) (Field.mk 0 be)))])).length (getOf Thing.cod (l6 ++ [(Thing.mk (IntKind.wrap .i64 (2 * i7)) (Point.mk (Int.tmod i7 64) 0) (A4.mk (Field.mk 0 be) (Field.mk 0 be) (Field.mk 0 be) (Field.mk 0 be)))]))))] (by kernel_rfl) (by kernel_rfl) (by kernel_rfl) ?_)))))))))))))))
      exact ih_l8 (l6 ++ [(Thing.mk (IntKind.wrap .i64 (2 * i7)) (Point.mk (Int.tmod i7 64) 0) (A4.mk (Field.mk 0 be) (Field.mk 0 be) (Field.mk 0 be) (Field.mk 0 be)))]) (IntKind.wrap .i64 (i7 + 1))
    · refine Sim.exit (.thenX (.loopX (.blockX (.thenN (.seq (.region0 (.run 1 [(37, .one (.osl 100006 0 0 (l6).length))] [] (by kernel_rfl) (.bind (og := F22 n l6) ⟨some 38, POp.call true [[(0, 11)]] 22 [Operand.tmp 37], none, []⟩ (fun r9 => [(38, .tup [qs r9.1, qj r9.2])]) (fun r9 => []) (by kernel_rfl) (fun r9 hr => pOp_eff (by kernel_rfl) (by kernel_rfl) (eff_call (ARGS := [.one (.osl 100006 0 0 (l6).length)]) (by kernel_rfl) (args_own (c := Thing.cod) (k := 100006) (g := 0) (el := 28) (l := l6) (by kernel_rfl) args_nil) (F22_ok n l6 r9 hr) (by kernel_rfl))) (fun r9 => ?_)))))))))
      refine SimI.run 5 [(9, qj r9.2), (8, qs r9.1), (40, qj r9.2), (39, qs r9.1), (36, .tup [qs r9.1, qj r9.2])] [] (by kernel_rfl) (.done (by kernel_rfl) (.thenN (.seq (.seq (.region0 (.run 2 [(42, qb (decide ((200 : Int) < IntKind.wrap .i64 (199 + IntKind.wrap .i64 (Int.tmod a0 3))))), (41, qj (IntKind.wrap .i64 (199 + IntKind.wrap .i64 (Int.tmod a0 3))))] [] (by kernel_rfl) (.done (by kernel_rfl) (.thenN (.cond (decide ((200 : Int) < IntKind.wrap .i64 (199 + IntKind.wrap .i64 (Int.tmod a0 3)))) (by kernel_rfl) ?_ ?_)))))))))
      · refine Sim.seq (.region0 (.run 3 [(45, qb (r9.2 == 13)), (44, qb (r9.2 == 13)), (43, qj r9.2)] [] (by kernel_rfl) (.split 45 (r9.2 == 13) (by kernel_rfl) ?_ ?_)))
        · exact SimI.run 4 [(4, qb (r9.1.toList == be.toList)), (48, qb (r9.1.toList == be.toList)), (47, qb (r9.1.toList == be.toList)), (46, qs r9.1)] [] (by kernel_rfl) (.done (by kernel_rfl) (.thenN (.ret (.thenR (.fin (by kernel_rfl))))))
        · exact SimI.run 4 [(4, qb false), (48, qb false), (47, .tup []), (46, .tup [])] [] (by kernel_rfl) (.done (by kernel_rfl) (.thenN (.ret (.thenR (.fin (by kernel_rfl))))))
      · refine Sim.skip (.thenN (.seq (.region0 (.run 1 [(50, qs r9.1)] [] (by kernel_rfl) (.bind (og := F32 n r9.1) ⟨some 51, POp.call true [[]] 32 [Operand.tmp 50], none, []⟩ (fun r10 => [(51, .tup [.one (vw Thing.cod r10.1), qj r10.2.1, qj r10.2.2])]) (fun r10 => []) (by kernel_rfl) (fun r10 hr => pOp_eff (by kernel_rfl) (by kernel_rfl) (eff_call (ARGS := [qs r9.1]) (by kernel_rfl) (args_clean (by kernel_rfl) args_nil) (F32_ok n r9.1 r10 hr) (by kernel_rfl))) (fun r10 => ?_))))))
        refine SimI.run 7 [(12, qj r10.2.2), (11, qj r10.2.1), (10, .one (vw Thing.cod r10.1)), (54, qj r10.2.2), (53, qj r10.2.1), (52, .one (vw Thing.cod r10.1)), (49, .tup [.one (vw Thing.cod r10.1), qj r10.2.1, qj r10.2.2])] [] (by kernel_rfl) (.done (by kernel_rfl) (.thenN (.seq (.region0 (.run 4 [(58, qj (IntKind.wrap .i64 (IntKind.wrap .i64 (199 + IntKind.wrap .i64 (Int.tmod a0 3)) - 1))), (57, qj (IntKind.wrap .i64 (199 + IntKind.wrap .i64 (Int.tmod a0 3)))), (56, qj (IntKind.wrap .i64 a1)), (55, .one (li .u8 a1))] [] (by kernel_rfl) (.guard (c := IntKind.wrap .i64 (IntKind.wrap .i64 (199 + IntKind.wrap .i64 (Int.tmod a0 3)) - 1) ≠ 0) ⟨some 59, POp.prim (Prim.bin BinOp.rem 3 false false) [Operand.tmp 56, Operand.tmp 58], none, []⟩ [(59, qj (Int.tmod (IntKind.wrap .i64 a1) (IntKind.wrap .i64 (IntKind.wrap .i64 (199 + IntKind.wrap .i64 (Int.tmod a0 3)) - 1))))] [] (by kernel_rfl) (fun hc => pOp_eff (by kernel_rfl) (by kernel_rfl) (eff_prim (by kernel_rfl) (pr_rem _ _ _ .i64 (IntKind.wrap .i64 a1) (IntKind.wrap .i64 (IntKind.wrap .i64 (199 + IntKind.wrap .i64 (Int.tmod a0 3)) - 1)) hc))) (.run 1 [(13, qj (Int.tmod (IntKind.wrap .i64 a1) (IntKind.wrap .i64 (IntKind.wrap .i64 (199 + IntKind.wrap .i64 (Int.tmod a0 3)) - 1))))] [] (by kernel_rfl) (.done (by kernel_rfl) (.thenN (.seq (.region0 (.run 8 [(67, qj (IntKind.wrap .i64 (Int.tmod (IntKind.wrap .i64 a1) (IntKind.wrap .i64 (IntKind.wrap .i64 (199 + IntKind.wrap .i64 (Int.tmod a0 3)) - 1)) + 1))), (66, qj (Int.tmod (IntKind.wrap .i64 a1) (IntKind.wrap .i64 (IntKind.wrap .i64 (199 + IntKind.wrap .i64 (Int.tmod a0 3)) - 1)))), (65, .one (.osl 100006 0 0 (l6).length)), (64, qj (IntKind.wrap .i64 (Int.tmod (IntKind.wrap .i64 a1) (IntKind.wrap .i64 (IntKind.wrap .i64 (199 + IntKind.wrap .i64 (Int.tmod a0 3)) - 1)) + 1))), (63, qj (Int.tmod (IntKind.wrap .i64 a1) (IntKind.wrap .i64 (IntKind.wrap .i64 (199 + IntKind.wrap .i64 (Int.tmod a0 3)) - 1)))), (62, .one (.osl 100006 0 0 (l6).length)), (61, qj (Int.tmod (IntKind.wrap .i64 a1) (IntKind.wrap .i64 (IntKind.wrap .i64 (199 + IntKind.wrap .i64 (Int.tmod a0 3)) - 1)))), (60, .one (.osl 100006 0 0 (l6).length))] [] (by kernel_rfl) (.bindh (og := ix l6 (IntKind.wrap .i64 (Int.tmod (IntKind.wrap .i64 a1) (IntKind.wrap .i64 (IntKind.wrap .i64 (199 + IntKind.wrap .i64 (Int.tmod a0 3)) - 1)) + 1))) ⟨some 68, POp.iaddrS 11 (Operand.tmp 65) (Operand.tmp 67), none, [(65, Hint.obj 100006), (67, Hint.imm)]⟩ (fun x11 => [(68, .one (.aptr 100006 0 ((IntKind.wrap .i64 (Int.tmod (IntKind.wrap .i64 a1) (IntKind.wrap .i64 (IntKind.wrap .i64 (199 + IntKind.wrap .i64 (Int.tmod a0 3)) - 1)) + 1)).toNat) 0))]) (fun x11 => []) (by kernel_rfl) (fun x11 hr => pOp_eff (by kernel_rfl) (by kernel_rfl) (eff_idxO (c := Thing.cod) (l := l6) (g := 0) (el := 28) (k := .i64) (n := IntKind.wrap .i64 (Int.tmod (IntKind.wrap .i64 a1) (IntKind.wrap .i64 (IntKind.wrap .i64 (199 + IntKind.wrap .i64 (Int.tmod a0 3)) - 1)) + 1)) (by kernel_rfl) (by kernel_rfl) (by kernel_rfl) (by kernel_rfl) hr)) (fun x11 hx11 => ?_))))))))))))))
        refine SimI.step ⟨some 69, POp.load true 11 (Operand.tmp 68), none, [(68, Hint.obj 100006)]⟩ [(69, .agg (Thing.cells x11))] [] (by kernel_rfl) (pOp_eff (by kernel_rfl) (by kernel_rfl) (eff_loadO (c := Thing.cod) (a := x11) (l := l6) (key := 100006) (g := 0) (el := 28) (off := 0) (i := (IntKind.wrap .i64 (Int.tmod (IntKind.wrap .i64 a1) (IntKind.wrap .i64 (IntKind.wrap .i64 (199 + IntKind.wrap .i64 (Int.tmod a0 3)) - 1)) + 1)).toNat) (by kernel_rfl) (by kernel_rfl) (ix_some hx11).2.2.2 (by kernel_rfl))) (.run 2 [(71, qj (Int.tmod (IntKind.wrap .i64 a1) (IntKind.wrap .i64 (IntKind.wrap .i64 (199 + IntKind.wrap .i64 (Int.tmod a0 3)) - 1)))), (70, .one (.osl 100006 0 0 (l6).length))] [] (by kernel_rfl) (.bindh (og := ix l6 (Int.tmod (IntKind.wrap .i64 a1) (IntKind.wrap .i64 (IntKind.wrap .i64 (199 + IntKind.wrap .i64 (Int.tmod a0 3)) - 1)))) ⟨some 72, POp.iaddrS 11 (Operand.tmp 70) (Operand.tmp 71), none, [(70, Hint.obj 100006), (71, Hint.imm)]⟩ (fun x12 => [(72, .one (.aptr 100006 0 ((Int.tmod (IntKind.wrap .i64 a1) (IntKind.wrap .i64 (IntKind.wrap .i64 (199 + IntKind.wrap .i64 (Int.tmod a0 3)) - 1))).toNat) 0))]) (fun x12 => []) (by kernel_rfl) (fun x12 hr => pOp_eff (by kernel_rfl) (by kernel_rfl) (eff_idxO (c := Thing.cod) (l := l6) (g := 0) (el := 28) (k := .i64) (n := Int.tmod (IntKind.wrap .i64 a1) (IntKind.wrap .i64 (IntKind.wrap .i64 (199 + IntKind.wrap .i64 (Int.tmod a0 3)) - 1))) (by kernel_rfl) (by kernel_rfl) (by kernel_rfl) (by kernel_rfl) hr)) (fun x12 hx12 => ?_)))
        refine SimI.step ⟨some 73, POp.load true 11 (Operand.tmp 72), none, [(72, Hint.obj 100006)]⟩ [(73, .agg (Thing.cells x12))] [] (by kernel_rfl) (pOp_eff (by kernel_rfl) (by kernel_rfl) (eff_loadO (c := Thing.cod) (a := x12) (l := l6) (key := 100006) (g := 0) (el := 28) (off := 0) (i := (Int.tmod (IntKind.wrap .i64 a1) (IntKind.wrap .i64 (IntKind.wrap .i64 (199 + IntKind.wrap .i64 (Int.tmod a0 3)) - 1))).toNat) (by kernel_rfl) (by kernel_rfl) (ix_some hx12).2.2.2 (by kernel_rfl))) (.bindh (og := ix l6 (Int.tmod (IntKind.wrap .i64 a1) (IntKind.wrap .i64 (IntKind.wrap .i64 (199 + IntKind.wrap .i64 (Int.tmod a0 3)) - 1)))) ⟨some 74, POp.iaddrS 11 (Operand.tmp 60) (Operand.tmp 61), none, [(60, Hint.obj 100006), (61, Hint.imm)]⟩ (fun x13 => [(74, .one (.aptr 100006 0 ((Int.tmod (IntKind.wrap .i64 a1) (IntKind.wrap .i64 (IntKind.wrap .i64 (199 + IntKind.wrap .i64 (Int.tmod a0 3)) - 1))).toNat) 0))]) (fun x13 => []) (by kernel_rfl) (fun x13 hr => pOp_eff (by kernel_rfl) (by kernel_rfl) (eff_idxO (c := Thing.cod) (l := l6) (g := 0) (el := 28) (k := .i64) (n := Int.tmod (IntKind.wrap .i64 a1) (IntKind.wrap .i64 (IntKind.wrap .i64 (199 + IntKind.wrap .i64 (Int.tmod a0 3)) - 1))) (by kernel_rfl) (by kernel_rfl) (by kernel_rfl) (by kernel_rfl) hr)) (fun x13 hx13 => ?_))
        refine SimI.step ⟨none, POp.store 11 (Operand.tmp 74) (Operand.tmp 69), none, [(74, Hint.obj 100006), (69, Hint.imm)]⟩ [] [(100006, some (.arr 28 Thing.cod.sz 0 (((l6).set ((Int.tmod (IntKind.wrap .i64 a1) (IntKind.wrap .i64 (IntKind.wrap .i64 (199 + IntKind.wrap .i64 (Int.tmod a0 3)) - 1))).toNat) x11)).length (getOf Thing.cod ((l6).set ((Int.tmod (IntKind.wrap .i64 a1) (IntKind.wrap .i64 (IntKind.wrap .i64 (199 + IntKind.wrap .i64 (Int.tmod a0 3)) - 1))).toNat) x11))))] (by kernel_rfl) (pOp_eff_ (by kernel_rfl) (by kernel_rfl) (eff_storeO (c := Thing.cod) (key := 100006) (g := 0) (el := 28) (l := l6) (i := (Int.tmod (IntKind.wrap .i64 a1) (IntKind.wrap .i64 (IntKind.wrap .i64 (199 + IntKind.wrap .i64 (Int.tmod a0 3)) - 1))).toNat) (b := x11) (by kernel_rfl) (by kernel_rfl) (by kernel_rfl) (ix_some hx13).2.2.1 (fun _ => rfl) rfl (by kernel_rfl))) (.slot 6 (.one (.osl 100006 0 0 (((l6).set ((Int.tmod (IntKind.wrap .i64 a1) (IntKind.wrap .i64 (IntKind.wrap .i64 (199 + IntKind.wrap .i64 (Int.tmod a0 3)) - 1))).toNat) x11)).length)) (Eq.trans (b := PV.one (.osl 100006 0 0 (l6).length)) (by kernel_rfl) (congrArg (fun z => PV.one (Lf.osl 100006 0 0 z)) List.length_set.symm)) (.slot 62 (.one (.osl 100006 0 0 (((l6).set ((Int.tmod (IntKind.wrap .i64 a1) (IntKind.wrap .i64 (IntKind.wrap .i64 (199 + IntKind.wrap .i64 (Int.tmod a0 3)) - 1))).toNat) x11)).length)) (Eq.trans (b := PV.one (.osl 100006 0 0 (l6).length)) (by kernel_rfl) (congrArg (fun z => PV.one (Lf.osl 100006 0 0 z)) List.length_set.symm)) (.bindh (og := ix ((l6).set ((Int.tmod (IntKind.wrap .i64 a1) (IntKind.wrap .i64 (IntKind.wrap .i64 (199 + IntKind.wrap .i64 (Int.tmod a0 3)) - 1))).toNat) x11) (IntKind.wrap .i64 (Int.tmod (IntKind.wrap .i64 a1) (IntKind.wrap .i64 (IntKind.wrap .i64 (199 + IntKind.wrap .i64 (Int.tmod a0 3)) - 1)) + 1))) ⟨some 75, POp.iaddrS 11 (Operand.tmp 62) (Operand.tmp 64), none, [(62, Hint.obj 100006), (64, Hint.imm)]⟩ (fun x14 => [(75, .one (.aptr 100006 0 ((IntKind.wrap .i64 (Int.tmod (IntKind.wrap .i64 a1) (IntKind.wrap .i64 (IntKind.wrap .i64 (199 + IntKind.wrap .i64 (Int.tmod a0 3)) - 1)) + 1)).toNat) 0))]) (fun x14 => []) (by kernel_rfl) (fun x14 hr => pOp_eff (by kernel_rfl) (by kernel_rfl) (eff_idxO (c := Thing.cod) (l := ((l6).set ((Int.tmod (IntKind.wrap .i64 a1) (IntKind.wrap .i64 (IntKind.wrap .i64 (199 + IntKind.wrap .i64 (Int.tmod a0 3)) - 1))).toNat) x11)) (g := 0) (el := 28) (k := .i64) (n := IntKind.wrap .i64 (Int.tmod (IntKind.wrap .i64 a1) (IntKind.wrap .i64 (IntKind.wrap .i64 (199 + IntKind.wrap .i64 (Int.tmod a0 3)) - 1)) + 1)) (by kernel_rfl) (by kernel_rfl) (by kernel_rfl) (by kernel_rfl) hr)) (fun x14 hx14 => ?_))))
        refine SimI.step ⟨none, POp.store 11 (Operand.tmp 75) (Operand.tmp 73), none, [(75, Hint.obj 100006), (73, Hint.imm)]⟩ [] [(100006, some (.arr 28 Thing.cod.sz 0 (((((l6).set ((Int.tmod (IntKind.wrap .i64 a1) (IntKind.wrap .i64 (IntKind.wrap .i64 (199 + IntKind.wrap .i64 (Int.tmod a0 3)) - 1))).toNat) x11)).set ((IntKind.wrap .i64 (Int.tmod (IntKind.wrap .i64 a1) (IntKind.wrap .i64 (IntKind.wrap .i64 (199 + IntKind.wrap .i64 (Int.tmod a0 3)) - 1)) + 1)).toNat) x12)).length (getOf Thing.cod ((((l6).set ((Int.tmod (IntKind.wrap .i64 a1) (IntKind.wrap .i64 (IntKind.wrap .i64 (199 + IntKind.wrap .i64 (Int.tmod a0 3)) - 1))).toNat) x11)).set ((IntKind.wrap .i64 (Int.tmod (IntKind.wrap .i64 a1) (IntKind.wrap .i64 (IntKind.wrap .i64 (199 + IntKind.wrap .i64 (Int.tmod a0 3)) - 1)) + 1)).toNat) x12))))] (by kernel_rfl) (pOp_eff_ (by kernel_rfl) (by kernel_rfl) (eff_storeO (c := Thing.cod) (key := 100006) (g := 0) (el := 28) (l := ((l6).set ((Int.tmod (IntKind.wrap .i64 a1) (IntKind.wrap .i64 (IntKind.wrap .i64 (199 + IntKind.wrap .i64 (Int.tmod a0 3)) - 1))).toNat) x11)) (i := (IntKind.wrap .i64 (Int.tmod (IntKind.wrap .i64 a1) (IntKind.wrap .i64 (IntKind.wrap .i64 (199 + IntKind.wrap .i64 (Int.tmod a0 3)) - 1)) + 1)).toNat) (b := x12) (by kernel_rfl) (by kernel_rfl) (by kernel_rfl) (ix_some hx14).2.2.1 (fun _ => rfl) rfl (by kernel_rfl))) (.slot 6 (.one (.osl 100006 0 0 (((((l6).set ((Int.tmod (IntKind.wrap .i64 a1) (IntKind.wrap .i64 (IntKind.wrap .i64 (199 + IntKind.wrap .i64 (Int.tmod a0 3)) - 1))).toNat) x11)).set ((IntKind.wrap .i64 (Int.tmod (IntKind.wrap .i64 a1) (IntKind.wrap .i64 (IntKind.wrap .i64 (199 + IntKind.wrap .i64 (Int.tmod a0 3)) - 1)) + 1)).toNat) x12)).length)) (Eq.trans (b := PV.one (.osl 100006 0 0 (((l6).set ((Int.tmod (IntKind.wrap .i64 a1) (IntKind.wrap .i64 (IntKind.wrap .i64 (199 + IntKind.wrap .i64 (Int.tmod a0 3)) - 1))).toNat) x11)).length)) (by kernel_rfl) (congrArg (fun z => PV.one (Lf.osl 100006 0 0 z)) List.length_set.symm)) (.done (by kernel_rfl) (.thenN (.seq (.region0 (.run 1 [(77, .one (.osl 100006 0 0 (((((l6).set ((Int.tmod (IntKind.wrap .i64 a1) (IntKind.wrap .i64 (IntKind.wrap .i64 (199 + IntKind.wrap .i64 (Int.tmod a0 3)) - 1))).toNat) x11)).set ((IntKind.wrap .i64 (Int.tmod (IntKind.wrap .i64 a1) (IntKind.wrap .i64 (IntKind.wrap .i64 (199 + IntKind.wrap .i64 (Int.tmod a0 3)) - 1)) + 1)).toNat) x12)).length))] [] (by kernel_rfl) (.bind (og := F22 n ((((l6).set ((Int.tmod (IntKind.wrap .i64 a1) (IntKind.wrap .i64 (IntKind.wrap .i64 (199 + IntKind.wrap .i64 (Int.tmod a0 3)) - 1))).toNat) x11)).set ((IntKind.wrap .i64 (Int.tmod (IntKind.wrap .i64 a1) (IntKind.wrap .i64 (IntKind.wrap .i64 (199 + IntKind.wrap .i64 (Int.tmod a0 3)) - 1)) + 1)).toNat) x12)) ⟨some 78, POp.call true [[(0, 11)]] 22 [Operand.tmp 77], none, []⟩ (fun r15 => [(78, .tup [qs r15.1, qj r15.2])]) (fun r15 => []) (by kernel_rfl) (fun r15 hr => pOp_eff (by kernel_rfl) (by kernel_rfl) (eff_call (ARGS := [.one (.osl 100006 0 0 (((((l6).set ((Int.tmod (IntKind.wrap .i64 a1) (IntKind.wrap .i64 (IntKind.wrap .i64 (199 + IntKind.wrap .i64 (Int.tmod a0 3)) - 1))).toNat) x11)).set ((IntKind.wrap .i64 (Int.tmod (IntKind.wrap .i64 a1) (IntKind.wrap .i64 (IntKind.wrap .i64 (199 + IntKind.wrap .i64 (Int.tmod a0 3)) - 1)) + 1)).toNat) x12)).length)]) (by kernel_rfl) (args_own (c := Thing.cod) (k := 100006) (g := 0) (el := 28) (l := ((((l6).set ((Int.tmod (IntKind.wrap .i64 a1) (IntKind.wrap .i64 (IntKind.wrap .i64 (199 + IntKind.wrap .i64 (Int.tmod a0 3)) - 1))).toNat) x11)).set ((IntKind.wrap .i64 (Int.tmod (IntKind.wrap .i64 a1) (IntKind.wrap .i64 (IntKind.wrap .i64 (199 + IntKind.wrap .i64 (Int.tmod a0 3)) - 1)) + 1)).toNat) x12)) (by kernel_rfl) args_nil) (F22_ok n ((((l6).set ((Int.tmod (IntKind.wrap .i64 a1) (IntKind.wrap .i64 (IntKind.wrap .i64 (199 + IntKind.wrap .i64 (Int.tmod a0 3)) - 1))).toNat) x11)).set ((IntKind.wrap .i64 (Int.tmod (IntKind.wrap .i64 a1) (IntKind.wrap .i64 (IntKind.wrap .i64 (199 + IntKind.wrap .i64 (Int.tmod a0 3)) - 1)) + 1)).toNat) x12) r15 hr) (by kernel_rfl))) (fun r15 => ?_))))))))
        refine SimI.run 5 [(15, qj r15.2), (14, qs r15.1), (80, qj r15.2), (79, qs r15.1), (76, .tup [qs r15.1, qj r15.2])] [] (by kernel_rfl) (.done (by kernel_rfl) (.thenN (.seq (.region0 (.run 3 [(83, qb (r9.2 == 0)), (82, qb (r9.2 == 0)), (81, qj r9.2)] [] (by kernel_rfl) (.split 83 (r9.2 == 0) (by kernel_rfl) ?_ ?_))))))
        · refine SimI.run 4 [(87, qb (r10.2.2 == 0)), (86, qb (r10.2.2 == 0)), (85, qb (r10.2.2 == 0)), (84, qj r10.2.2)] [] (by kernel_rfl) (.split 87 (r10.2.2 == 0) (by kernel_rfl) ?_ ?_)
          · refine SimI.run 6 [(93, qb (r10.2.1 == (r9.1.size : Int))), (92, qb (r10.2.1 == (r9.1.size : Int))), (91, qb (r10.2.1 == (r9.1.size : Int))), (90, qj (r9.1.size : Int)), (89, qs r9.1), (88, qj r10.2.1)] [] (by kernel_rfl) (.split 93 (r10.2.1 == (r9.1.size : Int)) (by kernel_rfl) ?_ ?_)
            · refine SimI.run 6 [(99, qb (((r10.1).length : Int) == (IntKind.wrap .i64 (199 + IntKind.wrap .i64 (Int.tmod a0 3))))), (98, qb (((r10.1).length : Int) == (IntKind.wrap .i64 (199 + IntKind.wrap .i64 (Int.tmod a0 3))))), (97, qb (((r10.1).length : Int) == (IntKind.wrap .i64 (199 + IntKind.wrap .i64 (Int.tmod a0 3))))), (96, qj (IntKind.wrap .i64 (199 + IntKind.wrap .i64 (Int.tmod a0 3)))), (95, qj ((r10.1).length : Int)), (94, .one (vw Thing.cod r10.1))] [] (by kernel_rfl) (.split 99 (((r10.1).length : Int) == (IntKind.wrap .i64 (199 + IntKind.wrap .i64 (Int.tmod a0 3)))) (by kernel_rfl) ?_ ?_)
              · exact SimI.run 4 [(4, qb (r15.2 == 11)), (102, qb (r15.2 == 11)), (101, qb (r15.2 == 11)), (100, qj r15.2)] [] (by kernel_rfl) (.done (by kernel_rfl) (.thenN (.ret (.fin (by kernel_rfl)))))
              · exact SimI.run 4 [(4, qb false), (102, qb false), (101, .tup []), (100, .tup [])] [] (by kernel_rfl) (.done (by kernel_rfl) (.thenN (.ret (.fin (by kernel_rfl)))))
            · exact SimI.run 10 [(4, qb false), (102, qb false), (101, .tup []), (100, .tup []), (99, qb false), (98, qb false), (97, .tup []), (96, .tup []), (95, .tup []), (94, .tup [])] [] (by kernel_rfl) (.done (by kernel_rfl) (.thenN (.ret (.fin (by kernel_rfl)))))
          · exact SimI.run 16 [(4, qb false), (102, qb false), (101, .tup []), (100, .tup []), (99, qb false), (98, qb false), (97, .tup []), (96, .tup []), (95, .tup []), (94, .tup []), (93, qb false), (92, qb false), (91, .tup []), (90, .tup []), (89, .tup []), (88, .tup [])] [] (by kernel_rfl) (.done (by kernel_rfl) (.thenN (.ret (.fin (by kernel_rfl)))))
        · exact SimI.run 20 [(4, qb false), (102, qb false), (101, .tup []), (100, .tup []), (99, qb false), (98, qb false), (97, .tup []), (96, .tup []), (95, .tup []), (94, .tup []), (93, qb false), (92, qb false), (91, .tup []), (90, .tup []), (89, .tup []), (88, .tup []), (87, qb false), (86, qb false), (85, .tup []), (84, .tup [])] [] (by kernel_rfl) (.done (by kernel_rfl) (.thenN (.ret (.fin (by kernel_rfl)))))

def F8 (n : Nat) (a0 : Int) (a1 : Int) : Option Bool :=
  ((some true)).bind fun (r1 : Bool) =>
  if !(r1) then
    some false
  else
    F8_l8 n a0 a1 (n + 8) ([] : List Thing) 0
theorem F8_ok (n : Nat) (a0 : Int) (a1 : Int) : ∀ r, F8 n a0 a1 = some r → D 8 [.one (li .u8 a0), .one (li .u8 a1)] [] = some (F8_e r) := by
  refine fn_to (D := D) (n := n + 8) (nt := 103) (rs := pc8_r) (c := pc8_c50) (L := [(0, .one (li .u8 a0)), (1, .one (li .u8 a1))]) (M := []) (k := 0) rfl rfl rfl rfl rfl rfl rfl ?_
  unfold F8
  refine Sim.seq (.region0 (.run 1 [(4, qb false)] [] (by kernel_rfl) (.done (by kernel_rfl) (.thenN (.seq (.seq (.region0 (.bind (og := (some true)) ⟨some 16, POp.call true [] 15 [], none, []⟩ (fun r1 => [(16, qb r1)]) (fun r1 => []) (by kernel_rfl) (fun r1 hr => pOp_eff (by kernel_rfl) (by kernel_rfl) (eff_call (ARGS := []) (by kernel_rfl) (args_nil) (F15_ok n r1 hr) (by kernel_rfl))) (fun r1 => ?_)))))))))
  refine SimI.run 1 [(17, qb (!(r1)))] [] (by kernel_rfl) (.done (by kernel_rfl) (.thenN (.cond (!(r1)) (by kernel_rfl) ?_ ?_)))
  · exact Sim.seq (.region0 (.run 1 [(4, qb false)] [] (by kernel_rfl) (.done (by kernel_rfl) (.thenN (.ret (.thenR (.fin (by kernel_rfl))))))))
  · refine Sim.skip (.thenN (.seq (.region0 (.run 5 [(5, qj (IntKind.wrap .i64 (199 + IntKind.wrap .i64 (Int.tmod a0 3)))), (21, qj (IntKind.wrap .i64 (199 + IntKind.wrap .i64 (Int.tmod a0 3)))), (20, qj (IntKind.wrap .i64 (Int.tmod a0 3))), (19, .one (li .u8 (Int.tmod a0 3))), (18, .one (li .u8 a0))] [] (by kernel_rfl) (.done (by kernel_rfl) (.thenN (.seq (.region0 (.run 1 [(6, .one (lnil))] [] (by kernel_rfl) (.done (by kernel_rfl) (.thenN (.seq (.seq (.region0 (.run 1 [(7, qj 0)] [] (by kernel_rfl) (.done (by kernel_rfl) (.thenN (.block (.loop (.pre (ts := [1, 5, 6, 7]) (os := [100006]) (ow := [(false, 6, 0, 100006, 28, 11)]) [(1, .one (li .u8 a1)), (5, qj (IntKind.wrap .i64 (199 + IntKind.wrap .i64 (Int.tmod a0 3)))), (6, .one (.osl 100006 0 0 (([] : List Thing)).length)), (7, qj 0)] [(100006, some (.arr 28 Thing.cod.sz 0 (([] : List Thing)).length (getOf Thing.cod ([] : List Thing))))] (by kernel_rfl) (by kernel_rfl) (by kernel_rfl) ?_))))))))))))))))))))
    exact F8_l8_ok n a0 a1 (n + 8) ([] : List Thing) 0


-- 58: vedette/vedetteref3.On
def F58_e : Bool → PV × List Ob := fun r => (.one (lb r), [])
def F58 (n : Nat) (a0 : Point) : Option Bool :=
  if decide ((0 : Int) ≤ a0.X) then
    if decide (a0.X < 64) then
      if decide ((0 : Int) ≤ a0.Y) then
        some (decide (a0.Y < 64))
      else
        some false
    else
      some false
  else
    some false
theorem F58_ok (n : Nat) (a0 : Point) : ∀ r, F58 n a0 = some r → D 58 [.agg [li .i64 a0.X, li .i64 a0.Y]] [] = some (F58_e r) := by
  refine fn_to (D := D) (n := n + 8) (nt := 21) (rs := pc58_r) (c := pc58_c5) (L := [(0, .agg [lj a0.X, lj a0.Y])]) (M := []) (k := 0) rfl rfl rfl rfl rfl rfl rfl ?_
  unfold F58
  refine Sim.seq (.region0 (.run 2 [(2, qb false), (1, qp 1 0)] [(1, some (.cells [lj a0.X, lj a0.Y]))] (by kernel_rfl) (.done (by kernel_rfl) (.thenN (.seq (.region0 (.run 4 [(6, qb (decide ((0 : Int) ≤ a0.X))), (5, qb (decide ((0 : Int) ≤ a0.X))), (4, qj a0.X), (3, qp 1 0)] [] (by kernel_rfl) (.split 6 (decide ((0 : Int) ≤ a0.X)) (by kernel_rfl) ?_ ?_))))))))
  · refine SimI.run 5 [(11, qb (decide (a0.X < 64))), (10, qb (decide (a0.X < 64))), (9, qb (decide (a0.X < 64))), (8, qj a0.X), (7, qp 1 0)] [] (by kernel_rfl) (.split 11 (decide (a0.X < 64)) (by kernel_rfl) ?_ ?_)
    · refine SimI.run 5 [(16, qb (decide ((0 : Int) ≤ a0.Y))), (15, qb (decide ((0 : Int) ≤ a0.Y))), (14, qb (decide ((0 : Int) ≤ a0.Y))), (13, qj a0.Y), (12, qp 1 1)] [] (by kernel_rfl) (.split 16 (decide ((0 : Int) ≤ a0.Y)) (by kernel_rfl) ?_ ?_)
      · exact SimI.run 5 [(2, qb (decide (a0.Y < 64))), (20, qb (decide (a0.Y < 64))), (19, qb (decide (a0.Y < 64))), (18, qj a0.Y), (17, qp 1 1)] [] (by kernel_rfl) (.done (by kernel_rfl) (.thenN (.ret (.fin (by kernel_rfl)))))
      · exact SimI.run 5 [(2, qb false), (20, qb false), (19, .tup []), (18, .tup []), (17, .tup [])] [] (by kernel_rfl) (.done (by kernel_rfl) (.thenN (.ret (.fin (by kernel_rfl)))))
    · exact SimI.run 10 [(2, qb false), (20, qb false), (19, .tup []), (18, .tup []), (17, .tup []), (16, qb false), (15, qb false), (14, .tup []), (13, .tup []), (12, .tup [])] [] (by kernel_rfl) (.done (by kernel_rfl) (.thenN (.ret (.fin (by kernel_rfl)))))
  · exact SimI.run 15 [(2, qb false), (20, qb false), (19, .tup []), (18, .tup []), (17, .tup []), (16, qb false), (15, qb false), (14, .tup []), (13, .tup []), (12, .tup []), (11, qb false), (10, qb false), (9, .tup []), (8, .tup []), (7, .tup [])] [] (by kernel_rfl) (.done (by kernel_rfl) (.thenN (.ret (.fin (by kernel_rfl)))))


-- 59: vedette/vedetteref6.IsField
def F59_e : Bool → PV × List Ob := fun r => (.one (lb r), [])
def F59 (n : Nat) (a0 : Field) : Option Bool :=
  if a0.N == 0 then
    some (decide ((a0.Text.size : Int) ≤ 12))
  else
    if a0.Text.toList == ByteArray.empty.toList then
      some (decide ((a0.Text.size : Int) ≤ 12))
    else
      some false
theorem F59_ok (n : Nat) (a0 : Field) : ∀ r, F59 n a0 = some r → D 59 [.agg [li .i64 a0.N, ls a0.Text]] [] = some (F59_e r) := by
  refine fn_to (D := D) (n := n + 8) (nt := 17) (rs := pc59_r) (c := pc59_c5) (L := [(0, .agg [lj a0.N, ls a0.Text])]) (M := []) (k := 0) rfl rfl rfl rfl rfl rfl rfl ?_
  unfold F59
  refine Sim.seq (.region0 (.run 2 [(2, qb false), (1, qp 1 0)] [(1, some (.cells [lj a0.N, ls a0.Text]))] (by kernel_rfl) (.done (by kernel_rfl) (.thenN (.seq (.region0 (.run 4 [(6, qb (a0.N == 0)), (5, qb (a0.N == 0)), (4, qj a0.N), (3, qp 1 0)] [] (by kernel_rfl) (.split 6 (a0.N == 0) (by kernel_rfl) ?_ ?_))))))))
  · exact SimI.run 11 [(2, qb (decide ((a0.Text.size : Int) ≤ 12))), (16, qb (decide ((a0.Text.size : Int) ≤ 12))), (15, qb (decide ((a0.Text.size : Int) ≤ 12))), (14, qj (a0.Text.size : Int)), (13, qs a0.Text), (12, qp 1 1), (11, qb true), (10, qb true), (9, .tup []), (8, .tup []), (7, .tup [])] [] (by kernel_rfl) (.done (by kernel_rfl) (.thenN (.ret (.fin (by kernel_rfl)))))
  · refine SimI.run 5 [(11, qb (a0.Text.toList == be.toList)), (10, qb (a0.Text.toList == be.toList)), (9, qb (a0.Text.toList == be.toList)), (8, qs a0.Text), (7, qp 1 1)] [] (by kernel_rfl) (.split 11 (a0.Text.toList == be.toList) (by kernel_rfl) ?_ ?_)
    · exact SimI.run 6 [(2, qb (decide ((a0.Text.size : Int) ≤ 12))), (16, qb (decide ((a0.Text.size : Int) ≤ 12))), (15, qb (decide ((a0.Text.size : Int) ≤ 12))), (14, qj (a0.Text.size : Int)), (13, qs a0.Text), (12, qp 1 1)] [] (by kernel_rfl) (.done (by kernel_rfl) (.thenN (.ret (.fin (by kernel_rfl)))))
    · exact SimI.run 6 [(2, qb false), (16, qb false), (15, .tup []), (14, .tup []), (13, .tup []), (12, .tup [])] [] (by kernel_rfl) (.done (by kernel_rfl) (.thenN (.ret (.fin (by kernel_rfl)))))


-- 18: vedette/vedetteref6.Is
def F18_e : Bool → PV × List Ob := fun r => (.one (lb r), [])
def F18_u15 (n : Nat) (b14 : Bool) : Option Bool :=
    some b14
theorem F18_u15_ok (n : Nat) (a0 : Thing) (b14 : Bool) : SimL Try.prog D (n + 8) (n + 4) pc18_c13 [(1, qp 1 0), (3, qb b14), (4, qj 4)] [(1, some (.cells (Thing.cells a0)))] (F18_u15 n b14) (QB 0 (QT Try.prog D (n + 8) pc18_c19 (QF false pc18_r 0 F18_e))) := by
    unfold F18_u15
    exact SimL.succ (.seq (.seq (.region [(1, qp 1 0), (3, qb b14), (4, qj 4)] [(1, some (.cells (Thing.cells a0)))] (by kernel_rfl) (.run 2 [(19, qb false), (18, qj 4)] [] (by kernel_rfl) (.done (by kernel_rfl) (.thenN (.condF (by kernel_rfl) (.exit (.thenX (.loopX (.blockX (.thenN (.seq (.region0 (.run 2 [(2, qb b14), (30, qb b14)] [] (by kernel_rfl) (.done (by kernel_rfl) (.thenN (.ret (.fin (by kernel_rfl))))))))))))))))))))

def F18_u12 (n : Nat) (a0 : Thing) (b11 : Bool) : Option Bool :=
    if b11 then
      (F59 n a0.F.a3).bind fun (r13 : Bool) =>
      F18_u15 n r13
    else
      F18_u15 n false
theorem F18_u12_ok (n : Nat) (a0 : Thing) (b11 : Bool) : SimL Try.prog D (n + 8) (n + 5) pc18_c13 [(1, qp 1 0), (3, qb b11), (4, qj 3)] [(1, some (.cells (Thing.cells a0)))] (F18_u12 n a0 b11) (QB 0 (QT Try.prog D (n + 8) pc18_c19 (QF false pc18_r 0 F18_e))) := by
    unfold F18_u12
    refine SimL.succ (.seq (.seq (.region [(1, qp 1 0), (3, qb b11), (4, qj 3)] [(1, some (.cells (Thing.cells a0)))] (by kernel_rfl) (.run 2 [(19, qb true), (18, qj 3)] [] (by kernel_rfl) (.done (by kernel_rfl) (.thenN (.condT (by kernel_rfl) (.skip (.thenN (.seq (.block (.region0 (.run 2 [(23, qb b11), (22, qb b11)] [] (by kernel_rfl) (.split 23 b11 (by kernel_rfl) ?_ ?_))))))))))))))
    · refine SimI.run 4 [(27, .agg [lj a0.F.a3.N, ls a0.F.a3.Text]), (26, qp 1 9), (25, qp 1 3), (24, qj 3)] [] (by kernel_rfl) (.bind (og := F59 n a0.F.a3) ⟨some 28, POp.call true [[]] 59 [Operand.tmp 27], some (23, true), []⟩ (fun r13 => [(28, qb r13)]) (fun r13 => []) (by kernel_rfl) (fun r13 hr => pOp_eff (by kernel_rfl) (by kernel_rfl) (eff_call (ARGS := [.agg [lj a0.F.a3.N, ls a0.F.a3.Text]]) (by kernel_rfl) (args_clean (by kernel_rfl) args_nil) (F59_ok n a0.F.a3 r13 hr) (by kernel_rfl))) (fun r13 => ?_))
      refine SimI.run 2 [(3, qb r13), (29, qb r13)] [] (by kernel_rfl) (.done (by kernel_rfl) (.blockN (.thenN (.region0 (.run 3 [(4, qj 4), (21, qj 4), (20, qj 3)] [] (by kernel_rfl) (.done (by kernel_rfl) (.loopN (.pre (ts := [1, 3, 4]) (os := [1]) (ow := []) [(1, qp 1 0), (3, qb r13), (4, qj 4)] [(1, some (.cells (Thing.cells a0)))] (by kernel_rfl) (by kernel_rfl) (by kernel_rfl) ?_))))))))
      exact F18_u15_ok n a0 r13
    · refine SimI.run 7 [(3, qb false), (29, qb false), (28, .tup []), (27, .tup []), (26, .tup []), (25, .tup []), (24, .tup [])] [] (by kernel_rfl) (.done (by kernel_rfl) (.blockN (.thenN (.region0 (.run 3 [(4, qj 4), (21, qj 4), (20, qj 3)] [] (by kernel_rfl) (.done (by kernel_rfl) (.loopN (.pre (ts := [1, 3, 4]) (os := [1]) (ow := []) [(1, qp 1 0), (3, qb false), (4, qj 4)] [(1, some (.cells (Thing.cells a0)))] (by kernel_rfl) (by kernel_rfl) (by kernel_rfl) ?_))))))))
      exact F18_u15_ok n a0 false

def F18_u9 (n : Nat) (a0 : Thing) (b8 : Bool) : Option Bool :=
    if b8 then
      (F59 n a0.F.a2).bind fun (r10 : Bool) =>
      F18_u12 n a0 r10
    else
      F18_u12 n a0 false
theorem F18_u9_ok (n : Nat) (a0 : Thing) (b8 : Bool) : SimL Try.prog D (n + 8) (n + 6) pc18_c13 [(1, qp 1 0), (3, qb b8), (4, qj 2)] [(1, some (.cells (Thing.cells a0)))] (F18_u9 n a0 b8) (QB 0 (QT Try.prog D (n + 8) pc18_c19 (QF false pc18_r 0 F18_e))) := by
    unfold F18_u9
    refine SimL.succ (.seq (.seq (.region [(1, qp 1 0), (3, qb b8), (4, qj 2)] [(1, some (.cells (Thing.cells a0)))] (by kernel_rfl) (.run 2 [(19, qb true), (18, qj 2)] [] (by kernel_rfl) (.done (by kernel_rfl) (.thenN (.condT (by kernel_rfl) (.skip (.thenN (.seq (.block (.region0 (.run 2 [(23, qb b8), (22, qb b8)] [] (by kernel_rfl) (.split 23 b8 (by kernel_rfl) ?_ ?_))))))))))))))
    · refine SimI.run 4 [(27, .agg [lj a0.F.a2.N, ls a0.F.a2.Text]), (26, qp 1 7), (25, qp 1 3), (24, qj 2)] [] (by kernel_rfl) (.bind (og := F59 n a0.F.a2) ⟨some 28, POp.call true [[]] 59 [Operand.tmp 27], some (23, true), []⟩ (fun r10 => [(28, qb r10)]) (fun r10 => []) (by kernel_rfl) (fun r10 hr => pOp_eff (by kernel_rfl) (by kernel_rfl) (eff_call (ARGS := [.agg [lj a0.F.a2.N, ls a0.F.a2.Text]]) (by kernel_rfl) (args_clean (by kernel_rfl) args_nil) (F59_ok n a0.F.a2 r10 hr) (by kernel_rfl))) (fun r10 => ?_))
      refine SimI.run 2 [(3, qb r10), (29, qb r10)] [] (by kernel_rfl) (.done (by kernel_rfl) (.blockN (.thenN (.region0 (.run 3 [(4, qj 3), (21, qj 3), (20, qj 2)] [] (by kernel_rfl) (.done (by kernel_rfl) (.loopN (.pre (ts := [1, 3, 4]) (os := [1]) (ow := []) [(1, qp 1 0), (3, qb r10), (4, qj 3)] [(1, some (.cells (Thing.cells a0)))] (by kernel_rfl) (by kernel_rfl) (by kernel_rfl) ?_))))))))
      exact F18_u12_ok n a0 r10
    · refine SimI.run 7 [(3, qb false), (29, qb false), (28, .tup []), (27, .tup []), (26, .tup []), (25, .tup []), (24, .tup [])] [] (by kernel_rfl) (.done (by kernel_rfl) (.blockN (.thenN (.region0 (.run 3 [(4, qj 3), (21, qj 3), (20, qj 2)] [] (by kernel_rfl) (.done (by kernel_rfl) (.loopN (.pre (ts := [1, 3, 4]) (os := [1]) (ow := []) [(1, qp 1 0), (3, qb false), (4, qj 3)] [(1, some (.cells (Thing.cells a0)))] (by kernel_rfl) (by kernel_rfl) (by kernel_rfl) ?_))))))))
      exact F18_u12_ok n a0 false

def F18_u6 (n : Nat) (a0 : Thing) (b5 : Bool) : Option Bool :=
    if b5 then
      (F59 n a0.F.a1).bind fun (r7 : Bool) =>
      F18_u9 n a0 r7
    else
      F18_u9 n a0 false
theorem F18_u6_ok (n : Nat) (a0 : Thing) (b5 : Bool) : SimL Try.prog D (n + 8) (n + 7) pc18_c13 [(1, qp 1 0), (3, qb b5), (4, qj 1)] [(1, some (.cells (Thing.cells a0)))] (F18_u6 n a0 b5) (QB 0 (QT Try.prog D (n + 8) pc18_c19 (QF false pc18_r 0 F18_e))) := by
    unfold F18_u6
    refine SimL.succ (.seq (.seq (.region [(1, qp 1 0), (3, qb b5), (4, qj 1)] [(1, some (.cells (Thing.cells a0)))] (by kernel_rfl) (.run 2 [(19, qb true), (18, qj 1)] [] (by kernel_rfl) (.done (by kernel_rfl) (.thenN (.condT (by kernel_rfl) (.skip (.thenN (.seq (.block (.region0 (.run 2 [(23, qb b5), (22, qb b5)] [] (by kernel_rfl) (.split 23 b5 (by kernel_rfl) ?_ ?_))))))))))))))
    · refine SimI.run 4 [(27, .agg [lj a0.F.a1.N, ls a0.F.a1.Text]), (26, qp 1 5), (25, qp 1 3), (24, qj 1)] [] (by kernel_rfl) (.bind (og := F59 n a0.F.a1) ⟨some 28, POp.call true [[]] 59 [Operand.tmp 27], some (23, true), []⟩ (fun r7 => [(28, qb r7)]) (fun r7 => []) (by kernel_rfl) (fun r7 hr => pOp_eff (by kernel_rfl) (by kernel_rfl) (eff_call (ARGS := [.agg [lj a0.F.a1.N, ls a0.F.a1.Text]]) (by kernel_rfl) (args_clean (by kernel_rfl) args_nil) (F59_ok n a0.F.a1 r7 hr) (by kernel_rfl))) (fun r7 => ?_))
      refine SimI.run 2 [(3, qb r7), (29, qb r7)] [] (by kernel_rfl) (.done (by kernel_rfl) (.blockN (.thenN (.region0 (.run 3 [(4, qj 2), (21, qj 2), (20, qj 1)] [] (by kernel_rfl) (.done (by kernel_rfl) (.loopN (.pre (ts := [1, 3, 4]) (os := [1]) (ow := []) [(1, qp 1 0), (3, qb r7), (4, qj 2)] [(1, some (.cells (Thing.cells a0)))] (by kernel_rfl) (by kernel_rfl) (by kernel_rfl) ?_))))))))
      exact F18_u9_ok n a0 r7
    · refine SimI.run 7 [(3, qb false), (29, qb false), (28, .tup []), (27, .tup []), (26, .tup []), (25, .tup []), (24, .tup [])] [] (by kernel_rfl) (.done (by kernel_rfl) (.blockN (.thenN (.region0 (.run 3 [(4, qj 2), (21, qj 2), (20, qj 1)] [] (by kernel_rfl) (.done (by kernel_rfl) (.loopN (.pre (ts := [1, 3, 4]) (os := [1]) (ow := []) [(1, qp 1 0), (3, qb false), (4, qj 2)] [(1, some (.cells (Thing.cells a0)))] (by kernel_rfl) (by kernel_rfl) (by kernel_rfl) ?_))))))))
      exact F18_u9_ok n a0 false

def F18_j3 (n : Nat) (a0 : Thing) (b2 : Bool) : Option Bool :=
    if b2 then
      (F59 n a0.F.a0).bind fun (r4 : Bool) =>
      F18_u6 n a0 r4
    else
      F18_u6 n a0 false
theorem F18_j3_ok (n : Nat) (a0 : Thing) (b2 : Bool) : Sim Try.prog D (n + 8) pc18_c20 [(1, qp 1 0), (3, qb b2)] [(1, some (.cells (Thing.cells a0)))] (F18_j3 n a0 b2) (QF false pc18_r 0 F18_e) := by
    unfold F18_j3
    refine Sim.seq (.seq (.region [(1, qp 1 0), (3, qb b2)] [(1, some (.cells (Thing.cells a0)))] (by kernel_rfl) (.run 1 [(4, qj 0)] [] (by kernel_rfl) (.done (by kernel_rfl) (.thenN (.block (.loop (.succ (.seq (.seq (.region [(1, qp 1 0), (3, qb b2), (4, qj 0)] [(1, some (.cells (Thing.cells a0)))] (by kernel_rfl) (.run 2 [(19, qb true), (18, qj 0)] [] (by kernel_rfl) (.done (by kernel_rfl) (.thenN (.condT (by kernel_rfl) (.skip (.thenN (.seq (.block (.region0 (.run 2 [(23, qb b2), (22, qb b2)] [] (by kernel_rfl) (.split 23 b2 (by kernel_rfl) ?_ ?_))))))))))))))))))))))
    · refine SimI.run 4 [(27, .agg [lj a0.F.a0.N, ls a0.F.a0.Text]), (26, qp 1 3), (25, qp 1 3), (24, qj 0)] [] (by kernel_rfl) (.bind (og := F59 n a0.F.a0) ⟨some 28, POp.call true [[]] 59 [Operand.tmp 27], some (23, true), []⟩ (fun r4 => [(28, qb r4)]) (fun r4 => []) (by kernel_rfl) (fun r4 hr => pOp_eff (by kernel_rfl) (by kernel_rfl) (eff_call (ARGS := [.agg [lj a0.F.a0.N, ls a0.F.a0.Text]]) (by kernel_rfl) (args_clean (by kernel_rfl) args_nil) (F59_ok n a0.F.a0 r4 hr) (by kernel_rfl))) (fun r4 => ?_))
      refine SimI.run 2 [(3, qb r4), (29, qb r4)] [] (by kernel_rfl) (.done (by kernel_rfl) (.blockN (.thenN (.region0 (.run 3 [(4, qj 1), (21, qj 1), (20, qj 0)] [] (by kernel_rfl) (.done (by kernel_rfl) (.loopN (.pre (ts := [1, 3, 4]) (os := [1]) (ow := []) [(1, qp 1 0), (3, qb r4), (4, qj 1)] [(1, some (.cells (Thing.cells a0)))] (by kernel_rfl) (by kernel_rfl) (by kernel_rfl) ?_))))))))
      exact F18_u6_ok n a0 r4
    · refine SimI.run 7 [(3, qb false), (29, qb false), (28, .tup []), (27, .tup []), (26, .tup []), (25, .tup []), (24, .tup [])] [] (by kernel_rfl) (.done (by kernel_rfl) (.blockN (.thenN (.region0 (.run 3 [(4, qj 1), (21, qj 1), (20, qj 0)] [] (by kernel_rfl) (.done (by kernel_rfl) (.loopN (.pre (ts := [1, 3, 4]) (os := [1]) (ow := []) [(1, qp 1 0), (3, qb false), (4, qj 1)] [(1, some (.cells (Thing.cells a0)))] (by kernel_rfl) (by kernel_rfl) (by kernel_rfl) ?_))))))))
      exact F18_u6_ok n a0 false

def F18 (n : Nat) (a0 : Thing) : Option Bool :=
  if decide ((0 : Int) ≤ a0.ID) then
    if decide (a0.ID ≤ 1000000) then
      (F58 n a0.At).bind fun (r1 : Bool) =>
      F18_j3 n a0 r1
    else
      F18_j3 n a0 false
  else
    F18_j3 n a0 false
theorem F18_ok (n : Nat) (a0 : Thing) : ∀ r, F18 n a0 = some r → D 18 [.agg (Thing.cells a0)] [] = some (F18_e r) := by
  refine fn_to (D := D) (n := n + 8) (nt := 31) (rs := pc18_r) (c := pc18_c22) (L := [(0, .agg (Thing.cells a0))]) (M := []) (k := 0) rfl rfl rfl rfl rfl rfl rfl ?_
  unfold F18
  refine Sim.seq (.region0 (.run 2 [(2, qb false), (1, qp 1 0)] [(1, some (.cells (Thing.cells a0)))] (by kernel_rfl) (.done (by kernel_rfl) (.thenN (.seq (.region0 (.run 4 [(8, qb (decide ((0 : Int) ≤ a0.ID))), (7, qb (decide ((0 : Int) ≤ a0.ID))), (6, qj a0.ID), (5, qp 1 0)] [] (by kernel_rfl) (.split 8 (decide ((0 : Int) ≤ a0.ID)) (by kernel_rfl) ?_ ?_))))))))
  · refine SimI.run 5 [(13, qb (decide (a0.ID ≤ 1000000))), (12, qb (decide (a0.ID ≤ 1000000))), (11, qb (decide (a0.ID ≤ 1000000))), (10, qj a0.ID), (9, qp 1 0)] [] (by kernel_rfl) (.split 13 (decide (a0.ID ≤ 1000000)) (by kernel_rfl) ?_ ?_)
    · refine SimI.run 2 [(15, .agg [lj a0.At.X, lj a0.At.Y]), (14, qp 1 1)] [] (by kernel_rfl) (.bind (og := F58 n a0.At) ⟨some 16, POp.call true [[]] 58 [Operand.tmp 15], some (13, true), []⟩ (fun r1 => [(16, qb r1)]) (fun r1 => []) (by kernel_rfl) (fun r1 hr => pOp_eff (by kernel_rfl) (by kernel_rfl) (eff_call (ARGS := [.agg [lj a0.At.X, lj a0.At.Y]]) (by kernel_rfl) (args_clean (by kernel_rfl) args_nil) (F58_ok n a0.At r1 hr) (by kernel_rfl))) (fun r1 => ?_))
      refine SimI.run 2 [(3, qb r1), (17, qb r1)] [] (by kernel_rfl) (.done (by kernel_rfl) (.thenN (.pre (ts := [1, 3]) (os := [1]) (ow := []) [(1, qp 1 0), (3, qb r1)] [(1, some (.cells (Thing.cells a0)))] (by kernel_rfl) (by kernel_rfl) (by kernel_rfl) ?_)))
      exact F18_j3_ok n a0 r1
    · refine SimI.run 5 [(3, qb false), (17, qb false), (16, .tup []), (15, .tup []), (14, .tup [])] [] (by kernel_rfl) (.done (by kernel_rfl) (.thenN (.pre (ts := [1, 3]) (os := [1]) (ow := []) [(1, qp 1 0), (3, qb false)] [(1, some (.cells (Thing.cells a0)))] (by kernel_rfl) (by kernel_rfl) (by kernel_rfl) ?_)))
      exact F18_j3_ok n a0 false
  · refine SimI.run 10 [(3, qb false), (17, qb false), (16, .tup []), (15, .tup []), (14, .tup []), (13, qb false), (12, qb false), (11, .tup []), (10, .tup []), (9, .tup [])] [] (by kernel_rfl) (.done (by kernel_rfl) (.thenN (.pre (ts := [1, 3]) (os := [1]) (ow := []) [(1, qp 1 0), (3, qb false)] [(1, some (.cells (Thing.cells a0)))] (by kernel_rfl) (by kernel_rfl) (by kernel_rfl) ?_)))
    exact F18_j3_ok n a0 false


-- 60: vedette/vedetteref1.Put
def F60_e : ByteArray → PV × List Ob := fun r => (.one (ls r), [])
def F60_l7 (n : Nat) : Nat → Int → ByteArray → Option ByteArray
  | 0, _, _ => none
  | m + 1, i5, s6 =>
    if decide (i5 < 128) then
      if s6.size + (mkStr [IntKind.wrap .u8 i5]).size ≤ 9223372036854775807 then
        some (s6 ++ (mkStr [IntKind.wrap .u8 i5]))
      else none
    else
      if s6.size + (mkStr [bitsI .or .u8 (IntKind.wrap .u8 (bitsI .and .u64 i5 127)) 128]).size ≤ 9223372036854775807 then
        (F60_l7 n m) (shrI .u64 i5 7) (s6 ++ (mkStr [bitsI .or .u8 (IntKind.wrap .u8 (bitsI .and .u64 i5 127)) 128]))
      else none
theorem F60_l7_ok (n : Nat) : ∀ (m : Nat) (i5 : Int) (s6 : ByteArray), SimL Try.prog D (n + 8) m pc60_c14 [(0, .one (li .u64 i5)), (3, qs s6)] [] (F60_l7 n m i5 s6) (QB 0 (QF false pc60_r 0 F60_e)) := by
  intro m_l7
  induction m_l7 with
  | zero => intro i5 s6; exact SimL.zero'  rfl
  | succ m_l7 ih_l7 =>
    intro i5 s6
    refine SimL.succ ?_
    unfold F60_l7
    refine Sim.block (.seq (.seq (.region [(0, .one (li .u64 i5)), (3, qs s6)] [] (by kernel_rfl) (.run 2 [(5, qb (decide (i5 < 128))), (4, .one (li .u64 i5))] [] (by kernel_rfl) (.done (by kernel_rfl) (.thenN (.cond (decide (i5 < 128)) (by kernel_rfl) ?_ ?_)))))))
    · exact Sim.seq (.region0 (.run 4 [(9, .one (vw (codI .u8) [IntKind.wrap .u8 i5])), (8, .one (li .u8 (IntKind.wrap .u8 i5))), (7, .one (li .u64 i5)), (6, qs s6)] [] (by kernel_rfl) (.step ⟨some 10, POp.b2s (Operand.tmp 9), none, []⟩ [(10, qs (mkStr [IntKind.wrap .u8 i5]))] [] (by kernel_rfl) (pOp_eff (by kernel_rfl) (by kernel_rfl) (eff_b2s (l := [IntKind.wrap .u8 i5]) (by kernel_rfl))) (.guard (c := s6.size + (mkStr [IntKind.wrap .u8 i5]).size ≤ 9223372036854775807) ⟨some 11, POp.prim (Prim.bin BinOp.add 9 false false) [Operand.tmp 6, Operand.tmp 10], none, []⟩ [(11, qs (s6 ++ (mkStr [IntKind.wrap .u8 i5])))] [] (by kernel_rfl) (fun hc => pOp_eff (by kernel_rfl) (by kernel_rfl) (eff_prim (by kernel_rfl) (pr_addS _ _ _ s6 (mkStr [IntKind.wrap .u8 i5]) hc))) (.run 1 [(2, qs (s6 ++ (mkStr [IntKind.wrap .u8 i5])))] [] (by kernel_rfl) (.done (by kernel_rfl) (.thenN (.ret (.thenR (.blockR (.loopR (.blockR (.fin (by kernel_rfl))))))))))))))
    · refine Sim.skip (.thenN (.seq (.region0 (.run 6 [(17, .one (vw (codI .u8) [bitsI .or .u8 (IntKind.wrap .u8 (bitsI .and .u64 i5 127)) 128])), (16, .one (li .u8 (bitsI .or .u8 (IntKind.wrap .u8 (bitsI .and .u64 i5 127)) 128))), (15, .one (li .u8 (IntKind.wrap .u8 (bitsI .and .u64 i5 127)))), (14, .one (li .u64 (bitsI .and .u64 i5 127))), (13, .one (li .u64 i5)), (12, qs s6)] [] (by kernel_rfl) (.step ⟨some 18, POp.b2s (Operand.tmp 17), none, []⟩ [(18, qs (mkStr [bitsI .or .u8 (IntKind.wrap .u8 (bitsI .and .u64 i5 127)) 128]))] [] (by kernel_rfl) (pOp_eff (by kernel_rfl) (by kernel_rfl) (eff_b2s (l := [bitsI .or .u8 (IntKind.wrap .u8 (bitsI .and .u64 i5 127)) 128]) (by kernel_rfl))) (.guard (c := s6.size + (mkStr [bitsI .or .u8 (IntKind.wrap .u8 (bitsI .and .u64 i5 127)) 128]).size ≤ 9223372036854775807) ⟨some 19, POp.prim (Prim.bin BinOp.add 9 false false) [Operand.tmp 12, Operand.tmp 18], none, []⟩ [(19, qs (s6 ++ (mkStr [bitsI .or .u8 (IntKind.wrap .u8 (bitsI .and .u64 i5 127)) 128])))] [] (by kernel_rfl) (fun hc => pOp_eff (by kernel_rfl) (by kernel_rfl) (eff_prim (by kernel_rfl) (pr_addS _ _ _ s6 (mkStr [bitsI .or .u8 (IntKind.wrap .u8 (bitsI .and .u64 i5 127)) 128]) hc))) (.run 1 [(3, qs (s6 ++ (mkStr [bitsI .or .u8 (IntKind.wrap .u8 (bitsI .and .u64 i5 127)) 128])))] [] (by kernel_rfl) (.done (by kernel_rfl) (.thenN (.region0 (.run 3 [(0, .one (li .u64 (shrI .u64 i5 7))), (21, .one (li .u64 (shrI .u64 i5 7))), (20, .one (li .u64 i5))] [] (by kernel_rfl) (.done (by kernel_rfl) (.blockN (.loopN (.pre (ts := [0, 3]) (os := []) (ow := []) [(0, .one (li .u64 (shrI .u64 i5 7))), (3, qs (s6 ++ (mkStr [bitsI .or .u8 (IntKind.wrap .u8 (bitsI .and .u64 i5 127)) 128])))] [] (by kernel_rfl) (by kernel_rfl) (by kernel_rfl) ?_)))))))))))))))
      exact ih_l7 (shrI .u64 i5 7) (s6 ++ (mkStr [bitsI .or .u8 (IntKind.wrap .u8 (bitsI .and .u64 i5 127)) 128]))

def F60 (n : Nat) (a0 : Int) : Option ByteArray :=
  F60_l7 n (n + 8) a0 ByteArray.empty
theorem F60_ok (n : Nat) (a0 : Int) : ∀ r, F60 n a0 = some r → D 60 [.one (li .u64 a0)] [] = some (F60_e r) := by
  refine fn_to (D := D) (n := n + 8) (nt := 22) (rs := pc60_r) (c := pc60_c18) (L := [(0, .one (li .u64 a0))]) (M := []) (k := 0) rfl rfl rfl rfl rfl rfl rfl ?_
  unfold F60
  refine Sim.seq (.region0 (.run 1 [(2, qs be)] [] (by kernel_rfl) (.done (by kernel_rfl) (.thenN (.seq (.region0 (.run 1 [(3, qs be)] [] (by kernel_rfl) (.done (by kernel_rfl) (.thenN (.block (.loop (.pre (ts := [0, 3]) (os := []) (ow := []) [(0, .one (li .u64 a0)), (3, qs be)] [] (by kernel_rfl) (by kernel_rfl) (by kernel_rfl) ?_))))))))))))
  exact F60_l7_ok n (n + 8) a0 be


-- 61: vedette/vedetteref1.Text
def F61_e : ByteArray → PV × List Ob := fun r => (.one (ls r), [])
def F61 (n : Nat) (a0 : ByteArray) : Option ByteArray :=
  (F60 n (IntKind.wrap .u64 (a0.size : Int))).bind fun (r1 : ByteArray) =>
  if r1.size + a0.size ≤ 9223372036854775807 then
    some (r1 ++ a0)
  else none
theorem F61_ok (n : Nat) (a0 : ByteArray) : ∀ r, F61 n a0 = some r → D 61 [.one (ls a0)] [] = some (F61_e r) := by
  refine fn_to (D := D) (n := n + 8) (nt := 9) (rs := pc61_r) (c := pc61_c5) (L := [(0, qs a0)]) (M := []) (k := 0) rfl rfl rfl rfl rfl rfl rfl ?_
  unfold F61
  refine Sim.seq (.region0 (.run 1 [(2, qs be)] [] (by kernel_rfl) (.done (by kernel_rfl) (.thenN (.seq (.region0 (.run 3 [(5, .one (li .u64 (IntKind.wrap .u64 (a0.size : Int)))), (4, qj (a0.size : Int)), (3, qs a0)] [] (by kernel_rfl) (.bind (og := F60 n (IntKind.wrap .u64 (a0.size : Int))) ⟨some 6, POp.call true [[]] 60 [Operand.tmp 5], none, []⟩ (fun r1 => [(6, qs r1)]) (fun r1 => []) (by kernel_rfl) (fun r1 hr => pOp_eff (by kernel_rfl) (by kernel_rfl) (eff_call (ARGS := [.one (li .u64 (IntKind.wrap .u64 (a0.size : Int)))]) (by kernel_rfl) (args_clean (by kernel_rfl) args_nil) (F60_ok n (IntKind.wrap .u64 (a0.size : Int)) r1 hr) (by kernel_rfl))) (fun r1 => ?_)))))))))
  exact SimI.run 1 [(7, qs a0)] [] (by kernel_rfl) (.guard (c := r1.size + a0.size ≤ 9223372036854775807) ⟨some 8, POp.prim (Prim.bin BinOp.add 9 false false) [Operand.tmp 6, Operand.tmp 7], none, []⟩ [(8, qs (r1 ++ a0))] [] (by kernel_rfl) (fun hc => pOp_eff (by kernel_rfl) (by kernel_rfl) (eff_prim (by kernel_rfl) (pr_addS _ _ _ r1 a0 hc))) (.run 1 [(2, qs (r1 ++ a0))] [] (by kernel_rfl) (.done (by kernel_rfl) (.thenN (.ret (.fin (by kernel_rfl)))))))


-- 98: vedette/vedetteref1.Zig
def F98_e : Int → PV × List Ob := fun r => (.one (li .u64 r), [])
def F98 (n : Nat) (a0 : Int) : Option Int :=
  some (bitsI .xor .u64 (shlI .u64 (IntKind.wrap .u64 a0) 1) (IntKind.wrap .u64 (shrI .i64 a0 63)))
theorem F98_ok (n : Nat) (a0 : Int) : ∀ r, F98 n a0 = some r → D 98 [.one (li .i64 a0)] [] = some (F98_e r) := by
  refine fn_to (D := D) (n := n + 8) (nt := 10) (rs := pc98_r) (c := pc98_c5) (L := [(0, qj a0)]) (M := []) (k := 0) rfl rfl rfl rfl rfl rfl rfl ?_
  unfold F98
  exact Sim.seq (.region0 (.run 1 [(2, .one (li .u64 0))] [] (by kernel_rfl) (.done (by kernel_rfl) (.thenN (.seq (.region0 (.run 8 [(2, .one (li .u64 (bitsI .xor .u64 (shlI .u64 (IntKind.wrap .u64 a0) 1) (IntKind.wrap .u64 (shrI .i64 a0 63))))), (9, .one (li .u64 (bitsI .xor .u64 (shlI .u64 (IntKind.wrap .u64 a0) 1) (IntKind.wrap .u64 (shrI .i64 a0 63))))), (8, .one (li .u64 (IntKind.wrap .u64 (shrI .i64 a0 63)))), (7, qj (shrI .i64 a0 63)), (6, qj a0), (5, .one (li .u64 (shlI .u64 (IntKind.wrap .u64 a0) 1))), (4, .one (li .u64 (IntKind.wrap .u64 a0))), (3, qj a0)] [] (by kernel_rfl) (.done (by kernel_rfl) (.thenN (.ret (.fin (by kernel_rfl))))))))))))


-- 62: vedette/vedetteref1.Int
def F62_e : ByteArray → PV × List Ob := fun r => (.one (ls r), [])
def F62 (n : Nat) (a0 : Int) : Option ByteArray :=
  (F98 n a0).bind fun (r1 : Int) =>
  (F60 n r1).bind fun (r2 : ByteArray) =>
  some r2
theorem F62_ok (n : Nat) (a0 : Int) : ∀ r, F62 n a0 = some r → D 62 [.one (li .i64 a0)] [] = some (F62_e r) := by
  refine fn_to (D := D) (n := n + 8) (nt := 6) (rs := pc62_r) (c := pc62_c5) (L := [(0, qj a0)]) (M := []) (k := 0) rfl rfl rfl rfl rfl rfl rfl ?_
  unfold F62
  refine Sim.seq (.region0 (.run 1 [(2, qs be)] [] (by kernel_rfl) (.done (by kernel_rfl) (.thenN (.seq (.region0 (.run 1 [(3, qj a0)] [] (by kernel_rfl) (.bind (og := F98 n a0) ⟨some 4, POp.call true [[]] 98 [Operand.tmp 3], none, []⟩ (fun r1 => [(4, .one (li .u64 r1))]) (fun r1 => []) (by kernel_rfl) (fun r1 hr => pOp_eff (by kernel_rfl) (by kernel_rfl) (eff_call (ARGS := [qj a0]) (by kernel_rfl) (args_clean (by kernel_rfl) args_nil) (F98_ok n a0 r1 hr) (by kernel_rfl))) (fun r1 => ?_)))))))))
  refine SimI.bind (og := F60 n r1) ⟨some 5, POp.call true [[]] 60 [Operand.tmp 4], none, []⟩ (fun r2 => [(5, qs r2)]) (fun r2 => []) (by kernel_rfl) (fun r2 hr => pOp_eff (by kernel_rfl) (by kernel_rfl) (eff_call (ARGS := [.one (li .u64 r1)]) (by kernel_rfl) (args_clean (by kernel_rfl) args_nil) (F60_ok n r1 r2 hr) (by kernel_rfl))) (fun r2 => ?_)
  exact SimI.run 1 [(2, qs r2)] [] (by kernel_rfl) (.done (by kernel_rfl) (.thenN (.ret (.fin (by kernel_rfl)))))


-- 19: vedette/vedetteref6.Bytes
def F19_e : ByteArray → PV × List Ob := fun r => (.one (ls r), [])
def F19_u22 (n : Nat) (s21 : ByteArray) : Option ByteArray :=
    some s21
theorem F19_u22_ok (n : Nat) (a0 : Delta) (s21 : ByteArray) : SimL Try.prog D (n + 8) (n + 4) pc19_c28 [(1, qp 1 0), (3, qs s21), (4, qj 4)] [(1, some (.cells (Delta.cells a0)))] (F19_u22 n s21) (QB 0 (QT Try.prog D (n + 8) pc19_c34 (QF false pc19_r 0 F19_e))) := by
    unfold F19_u22
    exact SimL.succ (.seq (.seq (.region [(1, qp 1 0), (3, qs s21), (4, qj 4)] [(1, some (.cells (Delta.cells a0)))] (by kernel_rfl) (.run 2 [(32, qb false), (31, qj 4)] [] (by kernel_rfl) (.done (by kernel_rfl) (.thenN (.condF (by kernel_rfl) (.exit (.thenX (.loopX (.blockX (.thenN (.seq (.region0 (.run 2 [(2, qs s21), (65, qs s21)] [] (by kernel_rfl) (.done (by kernel_rfl) (.thenN (.ret (.fin (by kernel_rfl))))))))))))))))))))

def F19_u18 (n : Nat) (a0 : Delta) (s17 : ByteArray) : Option ByteArray :=
    if (bitsI .and .u8 (shrI .u8 a0.Mask 4) 1) != 0 then
      (F61 n a0.F.a3.Text).bind fun (r19 : ByteArray) =>
      if s17.size + r19.size ≤ 9223372036854775807 then
        if a0.F.a3.Text.toList == ByteArray.empty.toList then
          (F62 n a0.F.a3.N).bind fun (r20 : ByteArray) =>
          if (s17 ++ r19).size + r20.size ≤ 9223372036854775807 then
            F19_u22 n ((s17 ++ r19) ++ r20)
          else none
        else
          F19_u22 n (s17 ++ r19)
      else none
    else
      F19_u22 n s17
theorem F19_u18_ok (n : Nat) (a0 : Delta) (s17 : ByteArray) : SimL Try.prog D (n + 8) (n + 5) pc19_c28 [(1, qp 1 0), (3, qs s17), (4, qj 3)] [(1, some (.cells (Delta.cells a0)))] (F19_u18 n a0 s17) (QB 0 (QT Try.prog D (n + 8) pc19_c34 (QF false pc19_r 0 F19_e))) := by
    unfold F19_u18
    refine SimL.succ (.seq (.seq (.region [(1, qp 1 0), (3, qs s17), (4, qj 3)] [(1, some (.cells (Delta.cells a0)))] (by kernel_rfl) (.run 2 [(32, qb true), (31, qj 3)] [] (by kernel_rfl) (.done (by kernel_rfl) (.thenN (.condT (by kernel_rfl) (.skip (.thenN (.seq (.block (.seq (.region0 (.run 8 [(42, qb ((bitsI .and .u8 (shrI .u8 a0.Mask 4) 1) != 0)), (41, .one (li .u8 (bitsI .and .u8 (shrI .u8 a0.Mask 4) 1))), (40, .one (li .u8 (shrI .u8 a0.Mask 4))), (39, .one (li .u64 4)), (38, qj 4), (37, qj 3), (36, .one (li .u8 a0.Mask)), (35, qp 1 1)] [] (by kernel_rfl) (.done (by kernel_rfl) (.thenN (.cond ((bitsI .and .u8 (shrI .u8 a0.Mask 4) 1) != 0) (by kernel_rfl) ?_ ?_)))))))))))))))))
    · refine Sim.seq (.region0 (.run 6 [(48, qs a0.F.a3.Text), (47, qp 1 11), (46, qp 1 10), (45, qp 1 4), (44, qj 3), (43, qs s17)] [] (by kernel_rfl) (.bind (og := F61 n a0.F.a3.Text) ⟨some 49, POp.call true [[]] 61 [Operand.tmp 48], none, []⟩ (fun r19 => [(49, qs r19)]) (fun r19 => []) (by kernel_rfl) (fun r19 hr => pOp_eff (by kernel_rfl) (by kernel_rfl) (eff_call (ARGS := [qs a0.F.a3.Text]) (by kernel_rfl) (args_clean (by kernel_rfl) args_nil) (F61_ok n a0.F.a3.Text r19 hr) (by kernel_rfl))) (fun r19 => ?_))))
      refine SimI.guard (c := s17.size + r19.size ≤ 9223372036854775807) ⟨some 50, POp.prim (Prim.bin BinOp.add 9 false false) [Operand.tmp 43, Operand.tmp 49], none, []⟩ [(50, qs (s17 ++ r19))] [] (by kernel_rfl) (fun hc => pOp_eff (by kernel_rfl) (by kernel_rfl) (eff_prim (by kernel_rfl) (pr_addS _ _ _ s17 r19 hc))) (.run 1 [(3, qs (s17 ++ r19))] [] (by kernel_rfl) (.done (by kernel_rfl) (.thenN (.seq (.region0 (.run 6 [(56, qb (a0.F.a3.Text.toList == be.toList)), (55, qs a0.F.a3.Text), (54, qp 1 11), (53, qp 1 10), (52, qp 1 4), (51, qj 3)] [] (by kernel_rfl) (.done (by kernel_rfl) (.thenN (.cond (a0.F.a3.Text.toList == be.toList) (by kernel_rfl) ?_ ?_)))))))))
      · refine Sim.region0 (.run 6 [(62, qj a0.F.a3.N), (61, qp 1 10), (60, qp 1 10), (59, qp 1 4), (58, qj 3), (57, qs (s17 ++ r19))] [] (by kernel_rfl) (.bind (og := F62 n a0.F.a3.N) ⟨some 63, POp.call true [[]] 62 [Operand.tmp 62], none, []⟩ (fun r20 => [(63, qs r20)]) (fun r20 => []) (by kernel_rfl) (fun r20 hr => pOp_eff (by kernel_rfl) (by kernel_rfl) (eff_call (ARGS := [qj a0.F.a3.N]) (by kernel_rfl) (args_clean (by kernel_rfl) args_nil) (F62_ok n a0.F.a3.N r20 hr) (by kernel_rfl))) (fun r20 => ?_)))
        refine SimI.guard (c := (s17 ++ r19).size + r20.size ≤ 9223372036854775807) ⟨some 64, POp.prim (Prim.bin BinOp.add 9 false false) [Operand.tmp 57, Operand.tmp 63], none, []⟩ [(64, qs ((s17 ++ r19) ++ r20))] [] (by kernel_rfl) (fun hc => pOp_eff (by kernel_rfl) (by kernel_rfl) (eff_prim (by kernel_rfl) (pr_addS _ _ _ (s17 ++ r19) r20 hc))) (.run 1 [(3, qs ((s17 ++ r19) ++ r20))] [] (by kernel_rfl) (.done (by kernel_rfl) (.blockN (.thenN (.region0 (.run 3 [(4, qj 4), (34, qj 4), (33, qj 3)] [] (by kernel_rfl) (.done (by kernel_rfl) (.loopN (.pre (ts := [1, 3, 4]) (os := [1]) (ow := []) [(1, qp 1 0), (3, qs ((s17 ++ r19) ++ r20)), (4, qj 4)] [(1, some (.cells (Delta.cells a0)))] (by kernel_rfl) (by kernel_rfl) (by kernel_rfl) ?_)))))))))
        exact F19_u22_ok n a0 ((s17 ++ r19) ++ r20)
      · refine Sim.skip (.blockN (.thenN (.region0 (.run 3 [(4, qj 4), (34, qj 4), (33, qj 3)] [] (by kernel_rfl) (.done (by kernel_rfl) (.loopN (.pre (ts := [1, 3, 4]) (os := [1]) (ow := []) [(1, qp 1 0), (3, qs (s17 ++ r19)), (4, qj 4)] [(1, some (.cells (Delta.cells a0)))] (by kernel_rfl) (by kernel_rfl) (by kernel_rfl) ?_)))))))
        exact F19_u22_ok n a0 (s17 ++ r19)
    · refine Sim.skip (.blockN (.thenN (.region0 (.run 3 [(4, qj 4), (34, qj 4), (33, qj 3)] [] (by kernel_rfl) (.done (by kernel_rfl) (.loopN (.pre (ts := [1, 3, 4]) (os := [1]) (ow := []) [(1, qp 1 0), (3, qs s17), (4, qj 4)] [(1, some (.cells (Delta.cells a0)))] (by kernel_rfl) (by kernel_rfl) (by kernel_rfl) ?_)))))))
      exact F19_u22_ok n a0 s17

def F19_u14 (n : Nat) (a0 : Delta) (s13 : ByteArray) : Option ByteArray :=
    if (bitsI .and .u8 (shrI .u8 a0.Mask 3) 1) != 0 then
      (F61 n a0.F.a2.Text).bind fun (r15 : ByteArray) =>
      if s13.size + r15.size ≤ 9223372036854775807 then
        if a0.F.a2.Text.toList == ByteArray.empty.toList then
          (F62 n a0.F.a2.N).bind fun (r16 : ByteArray) =>
          if (s13 ++ r15).size + r16.size ≤ 9223372036854775807 then
            F19_u18 n a0 ((s13 ++ r15) ++ r16)
          else none
        else
          F19_u18 n a0 (s13 ++ r15)
      else none
    else
      F19_u18 n a0 s13
theorem F19_u14_ok (n : Nat) (a0 : Delta) (s13 : ByteArray) : SimL Try.prog D (n + 8) (n + 6) pc19_c28 [(1, qp 1 0), (3, qs s13), (4, qj 2)] [(1, some (.cells (Delta.cells a0)))] (F19_u14 n a0 s13) (QB 0 (QT Try.prog D (n + 8) pc19_c34 (QF false pc19_r 0 F19_e))) := by
    unfold F19_u14
    refine SimL.succ (.seq (.seq (.region [(1, qp 1 0), (3, qs s13), (4, qj 2)] [(1, some (.cells (Delta.cells a0)))] (by kernel_rfl) (.run 2 [(32, qb true), (31, qj 2)] [] (by kernel_rfl) (.done (by kernel_rfl) (.thenN (.condT (by kernel_rfl) (.skip (.thenN (.seq (.block (.seq (.region0 (.run 8 [(42, qb ((bitsI .and .u8 (shrI .u8 a0.Mask 3) 1) != 0)), (41, .one (li .u8 (bitsI .and .u8 (shrI .u8 a0.Mask 3) 1))), (40, .one (li .u8 (shrI .u8 a0.Mask 3))), (39, .one (li .u64 3)), (38, qj 3), (37, qj 2), (36, .one (li .u8 a0.Mask)), (35, qp 1 1)] [] (by kernel_rfl) (.done (by kernel_rfl) (.thenN (.cond ((bitsI .and .u8 (shrI .u8 a0.Mask 3) 1) != 0) (by kernel_rfl) ?_ ?_)))))))))))))))))
    · refine Sim.seq (.region0 (.run 6 [(48, qs a0.F.a2.Text), (47, qp 1 9), (46, qp 1 8), (45, qp 1 4), (44, qj 2), (43, qs s13)] [] (by kernel_rfl) (.bind (og := F61 n a0.F.a2.Text) ⟨some 49, POp.call true [[]] 61 [Operand.tmp 48], none, []⟩ (fun r15 => [(49, qs r15)]) (fun r15 => []) (by kernel_rfl) (fun r15 hr => pOp_eff (by kernel_rfl) (by kernel_rfl) (eff_call (ARGS := [qs a0.F.a2.Text]) (by kernel_rfl) (args_clean (by kernel_rfl) args_nil) (F61_ok n a0.F.a2.Text r15 hr) (by kernel_rfl))) (fun r15 => ?_))))
      refine SimI.guard (c := s13.size + r15.size ≤ 9223372036854775807) ⟨some 50, POp.prim (Prim.bin BinOp.add 9 false false) [Operand.tmp 43, Operand.tmp 49], none, []⟩ [(50, qs (s13 ++ r15))] [] (by kernel_rfl) (fun hc => pOp_eff (by kernel_rfl) (by kernel_rfl) (eff_prim (by kernel_rfl) (pr_addS _ _ _ s13 r15 hc))) (.run 1 [(3, qs (s13 ++ r15))] [] (by kernel_rfl) (.done (by kernel_rfl) (.thenN (.seq (.region0 (.run 6 [(56, qb (a0.F.a2.Text.toList == be.toList)), (55, qs a0.F.a2.Text), (54, qp 1 9), (53, qp 1 8), (52, qp 1 4), (51, qj 2)] [] (by kernel_rfl) (.done (by kernel_rfl) (.thenN (.cond (a0.F.a2.Text.toList == be.toList) (by kernel_rfl) ?_ ?_)))))))))
      · refine Sim.region0 (.run 6 [(62, qj a0.F.a2.N), (61, qp 1 8), (60, qp 1 8), (59, qp 1 4), (58, qj 2), (57, qs (s13 ++ r15))] [] (by kernel_rfl) (.bind (og := F62 n a0.F.a2.N) ⟨some 63, POp.call true [[]] 62 [Operand.tmp 62], none, []⟩ (fun r16 => [(63, qs r16)]) (fun r16 => []) (by kernel_rfl) (fun r16 hr => pOp_eff (by kernel_rfl) (by kernel_rfl) (eff_call (ARGS := [qj a0.F.a2.N]) (by kernel_rfl) (args_clean (by kernel_rfl) args_nil) (F62_ok n a0.F.a2.N r16 hr) (by kernel_rfl))) (fun r16 => ?_)))
        refine SimI.guard (c := (s13 ++ r15).size + r16.size ≤ 9223372036854775807) ⟨some 64, POp.prim (Prim.bin BinOp.add 9 false false) [Operand.tmp 57, Operand.tmp 63], none, []⟩ [(64, qs ((s13 ++ r15) ++ r16))] [] (by kernel_rfl) (fun hc => pOp_eff (by kernel_rfl) (by kernel_rfl) (eff_prim (by kernel_rfl) (pr_addS _ _ _ (s13 ++ r15) r16 hc))) (.run 1 [(3, qs ((s13 ++ r15) ++ r16))] [] (by kernel_rfl) (.done (by kernel_rfl) (.blockN (.thenN (.region0 (.run 3 [(4, qj 3), (34, qj 3), (33, qj 2)] [] (by kernel_rfl) (.done (by kernel_rfl) (.loopN (.pre (ts := [1, 3, 4]) (os := [1]) (ow := []) [(1, qp 1 0), (3, qs ((s13 ++ r15) ++ r16)), (4, qj 3)] [(1, some (.cells (Delta.cells a0)))] (by kernel_rfl) (by kernel_rfl) (by kernel_rfl) ?_)))))))))
        exact F19_u18_ok n a0 ((s13 ++ r15) ++ r16)
      · refine Sim.skip (.blockN (.thenN (.region0 (.run 3 [(4, qj 3), (34, qj 3), (33, qj 2)] [] (by kernel_rfl) (.done (by kernel_rfl) (.loopN (.pre (ts := [1, 3, 4]) (os := [1]) (ow := []) [(1, qp 1 0), (3, qs (s13 ++ r15)), (4, qj 3)] [(1, some (.cells (Delta.cells a0)))] (by kernel_rfl) (by kernel_rfl) (by kernel_rfl) ?_)))))))
        exact F19_u18_ok n a0 (s13 ++ r15)
    · refine Sim.skip (.blockN (.thenN (.region0 (.run 3 [(4, qj 3), (34, qj 3), (33, qj 2)] [] (by kernel_rfl) (.done (by kernel_rfl) (.loopN (.pre (ts := [1, 3, 4]) (os := [1]) (ow := []) [(1, qp 1 0), (3, qs s13), (4, qj 3)] [(1, some (.cells (Delta.cells a0)))] (by kernel_rfl) (by kernel_rfl) (by kernel_rfl) ?_)))))))
      exact F19_u18_ok n a0 s13

def F19_u10 (n : Nat) (a0 : Delta) (s9 : ByteArray) : Option ByteArray :=
    if (bitsI .and .u8 (shrI .u8 a0.Mask 2) 1) != 0 then
      (F61 n a0.F.a1.Text).bind fun (r11 : ByteArray) =>
      if s9.size + r11.size ≤ 9223372036854775807 then
        if a0.F.a1.Text.toList == ByteArray.empty.toList then
          (F62 n a0.F.a1.N).bind fun (r12 : ByteArray) =>
          if (s9 ++ r11).size + r12.size ≤ 9223372036854775807 then
            F19_u14 n a0 ((s9 ++ r11) ++ r12)
          else none
        else
          F19_u14 n a0 (s9 ++ r11)
      else none
    else
      F19_u14 n a0 s9
theorem F19_u10_ok (n : Nat) (a0 : Delta) (s9 : ByteArray) : SimL Try.prog D (n + 8) (n + 7) pc19_c28 [(1, qp 1 0), (3, qs s9), (4, qj 1)] [(1, some (.cells (Delta.cells a0)))] (F19_u10 n a0 s9) (QB 0 (QT Try.prog D (n + 8) pc19_c34 (QF false pc19_r 0 F19_e))) := by
    unfold F19_u10
    refine SimL.succ (.seq (.seq (.region [(1, qp 1 0), (3, qs s9), (4, qj 1)] [(1, some (.cells (Delta.cells a0)))] (by kernel_rfl) (.run 2 [(32, qb true), (31, qj 1)] [] (by kernel_rfl) (.done (by kernel_rfl) (.thenN (.condT (by kernel_rfl) (.skip (.thenN (.seq (.block (.seq (.region0 (.run 8 [(42, qb ((bitsI .and .u8 (shrI .u8 a0.Mask 2) 1) != 0)), (41, .one (li .u8 (bitsI .and .u8 (shrI .u8 a0.Mask 2) 1))), (40, .one (li .u8 (shrI .u8 a0.Mask 2))), (39, .one (li .u64 2)), (38, qj 2), (37, qj 1), (36, .one (li .u8 a0.Mask)), (35, qp 1 1)] [] (by kernel_rfl) (.done (by kernel_rfl) (.thenN (.cond ((bitsI .and .u8 (shrI .u8 a0.Mask 2) 1) != 0) (by kernel_rfl) ?_ ?_)))))))))))))))))
    · refine Sim.seq (.region0 (.run 6 [(48, qs a0.F.a1.Text), (47, qp 1 7), (46, qp 1 6), (45, qp 1 4), (44, qj 1), (43, qs s9)] [] (by kernel_rfl) (.bind (og := F61 n a0.F.a1.Text) ⟨some 49, POp.call true [[]] 61 [Operand.tmp 48], none, []⟩ (fun r11 => [(49, qs r11)]) (fun r11 => []) (by kernel_rfl) (fun r11 hr => pOp_eff (by kernel_rfl) (by kernel_rfl) (eff_call (ARGS := [qs a0.F.a1.Text]) (by kernel_rfl) (args_clean (by kernel_rfl) args_nil) (F61_ok n a0.F.a1.Text r11 hr) (by kernel_rfl))) (fun r11 => ?_))))
      refine SimI.guard (c := s9.size + r11.size ≤ 9223372036854775807) ⟨some 50, POp.prim (Prim.bin BinOp.add 9 false false) [Operand.tmp 43, Operand.tmp 49], none, []⟩ [(50, qs (s9 ++ r11))] [] (by kernel_rfl) (fun hc => pOp_eff (by kernel_rfl) (by kernel_rfl) (eff_prim (by kernel_rfl) (pr_addS _ _ _ s9 r11 hc))) (.run 1 [(3, qs (s9 ++ r11))] [] (by kernel_rfl) (.done (by kernel_rfl) (.thenN (.seq (.region0 (.run 6 [(56, qb (a0.F.a1.Text.toList == be.toList)), (55, qs a0.F.a1.Text), (54, qp 1 7), (53, qp 1 6), (52, qp 1 4), (51, qj 1)] [] (by kernel_rfl) (.done (by kernel_rfl) (.thenN (.cond (a0.F.a1.Text.toList == be.toList) (by kernel_rfl) ?_ ?_)))))))))
      · refine Sim.region0 (.run 6 [(62, qj a0.F.a1.N), (61, qp 1 6), (60, qp 1 6), (59, qp 1 4), (58, qj 1), (57, qs (s9 ++ r11))] [] (by kernel_rfl) (.bind (og := F62 n a0.F.a1.N) ⟨some 63, POp.call true [[]] 62 [Operand.tmp 62], none, []⟩ (fun r12 => [(63, qs r12)]) (fun r12 => []) (by kernel_rfl) (fun r12 hr => pOp_eff (by kernel_rfl) (by kernel_rfl) (eff_call (ARGS := [qj a0.F.a1.N]) (by kernel_rfl) (args_clean (by kernel_rfl) args_nil) (F62_ok n a0.F.a1.N r12 hr) (by kernel_rfl))) (fun r12 => ?_)))
        refine SimI.guard (c := (s9 ++ r11).size + r12.size ≤ 9223372036854775807) ⟨some 64, POp.prim (Prim.bin BinOp.add 9 false false) [Operand.tmp 57, Operand.tmp 63], none, []⟩ [(64, qs ((s9 ++ r11) ++ r12))] [] (by kernel_rfl) (fun hc => pOp_eff (by kernel_rfl) (by kernel_rfl) (eff_prim (by kernel_rfl) (pr_addS _ _ _ (s9 ++ r11) r12 hc))) (.run 1 [(3, qs ((s9 ++ r11) ++ r12))] [] (by kernel_rfl) (.done (by kernel_rfl) (.blockN (.thenN (.region0 (.run 3 [(4, qj 2), (34, qj 2), (33, qj 1)] [] (by kernel_rfl) (.done (by kernel_rfl) (.loopN (.pre (ts := [1, 3, 4]) (os := [1]) (ow := []) [(1, qp 1 0), (3, qs ((s9 ++ r11) ++ r12)), (4, qj 2)] [(1, some (.cells (Delta.cells a0)))] (by kernel_rfl) (by kernel_rfl) (by kernel_rfl) ?_)))))))))
        exact F19_u14_ok n a0 ((s9 ++ r11) ++ r12)
      · refine Sim.skip (.blockN (.thenN (.region0 (.run 3 [(4, qj 2), (34, qj 2), (33, qj 1)] [] (by kernel_rfl) (.done (by kernel_rfl) (.loopN (.pre (ts := [1, 3, 4]) (os := [1]) (ow := []) [(1, qp 1 0), (3, qs (s9 ++ r11)), (4, qj 2)] [(1, some (.cells (Delta.cells a0)))] (by kernel_rfl) (by kernel_rfl) (by kernel_rfl) ?_)))))))
        exact F19_u14_ok n a0 (s9 ++ r11)
    · refine Sim.skip (.blockN (.thenN (.region0 (.run 3 [(4, qj 2), (34, qj 2), (33, qj 1)] [] (by kernel_rfl) (.done (by kernel_rfl) (.loopN (.pre (ts := [1, 3, 4]) (os := [1]) (ow := []) [(1, qp 1 0), (3, qs s9), (4, qj 2)] [(1, some (.cells (Delta.cells a0)))] (by kernel_rfl) (by kernel_rfl) (by kernel_rfl) ?_)))))))
      exact F19_u14_ok n a0 s9

def F19_j6 (n : Nat) (a0 : Delta) (s5 : ByteArray) : Option ByteArray :=
    if (bitsI .and .u8 (shrI .u8 a0.Mask 1) 1) != 0 then
      (F61 n a0.F.a0.Text).bind fun (r7 : ByteArray) =>
      if s5.size + r7.size ≤ 9223372036854775807 then
        if a0.F.a0.Text.toList == ByteArray.empty.toList then
          (F62 n a0.F.a0.N).bind fun (r8 : ByteArray) =>
          if (s5 ++ r7).size + r8.size ≤ 9223372036854775807 then
            F19_u10 n a0 ((s5 ++ r7) ++ r8)
          else none
        else
          F19_u10 n a0 (s5 ++ r7)
      else none
    else
      F19_u10 n a0 s5
theorem F19_j6_ok (n : Nat) (a0 : Delta) (s5 : ByteArray) : Sim Try.prog D (n + 8) pc19_c35 [(1, qp 1 0), (3, qs s5)] [(1, some (.cells (Delta.cells a0)))] (F19_j6 n a0 s5) (QF false pc19_r 0 F19_e) := by
    unfold F19_j6
    refine Sim.seq (.seq (.region [(1, qp 1 0), (3, qs s5)] [(1, some (.cells (Delta.cells a0)))] (by kernel_rfl) (.run 1 [(4, qj 0)] [] (by kernel_rfl) (.done (by kernel_rfl) (.thenN (.block (.loop (.succ (.seq (.seq (.region [(1, qp 1 0), (3, qs s5), (4, qj 0)] [(1, some (.cells (Delta.cells a0)))] (by kernel_rfl) (.run 2 [(32, qb true), (31, qj 0)] [] (by kernel_rfl) (.done (by kernel_rfl) (.thenN (.condT (by kernel_rfl) (.skip (.thenN (.seq (.block (.seq (.region0 (.run 8 [(42, qb ((bitsI .and .u8 (shrI .u8 a0.Mask 1) 1) != 0)), (41, .one (li .u8 (bitsI .and .u8 (shrI .u8 a0.Mask 1) 1))), (40, .one (li .u8 (shrI .u8 a0.Mask 1))), (39, .one (li .u64 1)), (38, qj 1), (37, qj 0), (36, .one (li .u8 a0.Mask)), (35, qp 1 1)] [] (by kernel_rfl) (.done (by kernel_rfl) (.thenN (.cond ((bitsI .and .u8 (shrI .u8 a0.Mask 1) 1) != 0) (by kernel_rfl) ?_ ?_)))))))))))))))))))))))))
    · refine Sim.seq (.region0 (.run 6 [(48, qs a0.F.a0.Text), (47, qp 1 5), (46, qp 1 4), (45, qp 1 4), (44, qj 0), (43, qs s5)] [] (by kernel_rfl) (.bind (og := F61 n a0.F.a0.Text) ⟨some 49, POp.call true [[]] 61 [Operand.tmp 48], none, []⟩ (fun r7 => [(49, qs r7)]) (fun r7 => []) (by kernel_rfl) (fun r7 hr => pOp_eff (by kernel_rfl) (by kernel_rfl) (eff_call (ARGS := [qs a0.F.a0.Text]) (by kernel_rfl) (args_clean (by kernel_rfl) args_nil) (F61_ok n a0.F.a0.Text r7 hr) (by kernel_rfl))) (fun r7 => ?_))))
      refine SimI.guard (c := s5.size + r7.size ≤ 9223372036854775807) ⟨some 50, POp.prim (Prim.bin BinOp.add 9 false false) [Operand.tmp 43, Operand.tmp 49], none, []⟩ [(50, qs (s5 ++ r7))] [] (by kernel_rfl) (fun hc => pOp_eff (by kernel_rfl) (by kernel_rfl) (eff_prim (by kernel_rfl) (pr_addS _ _ _ s5 r7 hc))) (.run 1 [(3, qs (s5 ++ r7))] [] (by kernel_rfl) (.done (by kernel_rfl) (.thenN (.seq (.region0 (.run 6 [(56, qb (a0.F.a0.Text.toList == be.toList)), (55, qs a0.F.a0.Text), (54, qp 1 5), (53, qp 1 4), (52, qp 1 4), (51, qj 0)] [] (by kernel_rfl) (.done (by kernel_rfl) (.thenN (.cond (a0.F.a0.Text.toList == be.toList) (by kernel_rfl) ?_ ?_)))))))))
      · refine Sim.region0 (.run 6 [(62, qj a0.F.a0.N), (61, qp 1 4), (60, qp 1 4), (59, qp 1 4), (58, qj 0), (57, qs (s5 ++ r7))] [] (by kernel_rfl) (.bind (og := F62 n a0.F.a0.N) ⟨some 63, POp.call true [[]] 62 [Operand.tmp 62], none, []⟩ (fun r8 => [(63, qs r8)]) (fun r8 => []) (by kernel_rfl) (fun r8 hr => pOp_eff (by kernel_rfl) (by kernel_rfl) (eff_call (ARGS := [qj a0.F.a0.N]) (by kernel_rfl) (args_clean (by kernel_rfl) args_nil) (F62_ok n a0.F.a0.N r8 hr) (by kernel_rfl))) (fun r8 => ?_)))
        refine SimI.guard (c := (s5 ++ r7).size + r8.size ≤ 9223372036854775807) ⟨some 64, POp.prim (Prim.bin BinOp.add 9 false false) [Operand.tmp 57, Operand.tmp 63], none, []⟩ [(64, qs ((s5 ++ r7) ++ r8))] [] (by kernel_rfl) (fun hc => pOp_eff (by kernel_rfl) (by kernel_rfl) (eff_prim (by kernel_rfl) (pr_addS _ _ _ (s5 ++ r7) r8 hc))) (.run 1 [(3, qs ((s5 ++ r7) ++ r8))] [] (by kernel_rfl) (.done (by kernel_rfl) (.blockN (.thenN (.region0 (.run 3 [(4, qj 1), (34, qj 1), (33, qj 0)] [] (by kernel_rfl) (.done (by kernel_rfl) (.loopN (.pre (ts := [1, 3, 4]) (os := [1]) (ow := []) [(1, qp 1 0), (3, qs ((s5 ++ r7) ++ r8)), (4, qj 1)] [(1, some (.cells (Delta.cells a0)))] (by kernel_rfl) (by kernel_rfl) (by kernel_rfl) ?_)))))))))
        exact F19_u10_ok n a0 ((s5 ++ r7) ++ r8)
      · refine Sim.skip (.blockN (.thenN (.region0 (.run 3 [(4, qj 1), (34, qj 1), (33, qj 0)] [] (by kernel_rfl) (.done (by kernel_rfl) (.loopN (.pre (ts := [1, 3, 4]) (os := [1]) (ow := []) [(1, qp 1 0), (3, qs (s5 ++ r7)), (4, qj 1)] [(1, some (.cells (Delta.cells a0)))] (by kernel_rfl) (by kernel_rfl) (by kernel_rfl) ?_)))))))
        exact F19_u10_ok n a0 (s5 ++ r7)
    · refine Sim.skip (.blockN (.thenN (.region0 (.run 3 [(4, qj 1), (34, qj 1), (33, qj 0)] [] (by kernel_rfl) (.done (by kernel_rfl) (.loopN (.pre (ts := [1, 3, 4]) (os := [1]) (ow := []) [(1, qp 1 0), (3, qs s5), (4, qj 1)] [(1, some (.cells (Delta.cells a0)))] (by kernel_rfl) (by kernel_rfl) (by kernel_rfl) ?_)))))))
      exact F19_u10_ok n a0 s5

def F19 (n : Nat) (a0 : Delta) : Option ByteArray :=
  (F60 n (IntKind.wrap .u64 a0.ID)).bind fun (r1 : ByteArray) =>
  (F60 n (IntKind.wrap .u64 a0.Mask)).bind fun (r2 : ByteArray) =>
  if r1.size + r2.size ≤ 9223372036854775807 then
    if (bitsI .and .u8 a0.Mask 1) != 0 then
      (F60 n (IntKind.wrap .u64 a0.At.X)).bind fun (r3 : ByteArray) =>
      if (r1 ++ r2).size + r3.size ≤ 9223372036854775807 then
        (F60 n (IntKind.wrap .u64 a0.At.Y)).bind fun (r4 : ByteArray) =>
        if ((r1 ++ r2) ++ r3).size + r4.size ≤ 9223372036854775807 then
          F19_j6 n a0 (((r1 ++ r2) ++ r3) ++ r4)
        else none
      else none
    else
      F19_j6 n a0 (r1 ++ r2)
  else none
theorem F19_ok (n : Nat) (a0 : Delta) : ∀ r, F19 n a0 = some r → D 19 [.agg (Delta.cells a0)] [] = some (F19_e r) := by
  refine fn_to (D := D) (n := n + 8) (nt := 66) (rs := pc19_r) (c := pc19_c38) (L := [(0, .agg (Delta.cells a0))]) (M := []) (k := 0) rfl rfl rfl rfl rfl rfl rfl ?_
  unfold F19
  refine Sim.seq (.region0 (.run 2 [(2, qs be), (1, qp 1 0)] [(1, some (.cells (Delta.cells a0)))] (by kernel_rfl) (.done (by kernel_rfl) (.thenN (.seq (.region0 (.run 3 [(7, .one (li .u64 (IntKind.wrap .u64 a0.ID))), (6, qj a0.ID), (5, qp 1 0)] [] (by kernel_rfl) (.bind (og := F60 n (IntKind.wrap .u64 a0.ID)) ⟨some 8, POp.call false [[]] 60 [Operand.tmp 7], none, [(7, Hint.imm)]⟩ (fun r1 => [(8, qs r1)]) (fun r1 => []) (by kernel_rfl) (fun r1 hr => pOp_eff (by kernel_rfl) (by kernel_rfl) (eff_call (ARGS := [.one (li .u64 (IntKind.wrap .u64 a0.ID))]) (by kernel_rfl) (args_clean (by kernel_rfl) args_nil) (F60_ok n (IntKind.wrap .u64 a0.ID) r1 hr) (by kernel_rfl))) (fun r1 => ?_)))))))))
  refine SimI.run 3 [(11, .one (li .u64 (IntKind.wrap .u64 a0.Mask))), (10, .one (li .u8 a0.Mask)), (9, qp 1 1)] [] (by kernel_rfl) (.bind (og := F60 n (IntKind.wrap .u64 a0.Mask)) ⟨some 12, POp.call false [[]] 60 [Operand.tmp 11], none, [(11, Hint.imm)]⟩ (fun r2 => [(12, qs r2)]) (fun r2 => []) (by kernel_rfl) (fun r2 hr => pOp_eff (by kernel_rfl) (by kernel_rfl) (eff_call (ARGS := [.one (li .u64 (IntKind.wrap .u64 a0.Mask))]) (by kernel_rfl) (args_clean (by kernel_rfl) args_nil) (F60_ok n (IntKind.wrap .u64 a0.Mask) r2 hr) (by kernel_rfl))) (fun r2 => ?_))
  refine SimI.guard (c := r1.size + r2.size ≤ 9223372036854775807) ⟨some 13, POp.prim (Prim.bin BinOp.add 9 false false) [Operand.tmp 8, Operand.tmp 12], none, [(8, Hint.imm), (12, Hint.imm)]⟩ [(13, qs (r1 ++ r2))] [] (by kernel_rfl) (fun hc => pOp_eff (by kernel_rfl) (by kernel_rfl) (eff_prim (by kernel_rfl) (pr_addS _ _ _ r1 r2 hc))) (.run 1 [(3, qs (r1 ++ r2))] [] (by kernel_rfl) (.done (by kernel_rfl) (.thenN (.seq (.seq (.region0 (.run 4 [(17, qb ((bitsI .and .u8 a0.Mask 1) != 0)), (16, .one (li .u8 (bitsI .and .u8 a0.Mask 1))), (15, .one (li .u8 a0.Mask)), (14, qp 1 1)] [] (by kernel_rfl) (.done (by kernel_rfl) (.thenN (.cond ((bitsI .and .u8 a0.Mask 1) != 0) (by kernel_rfl) ?_ ?_))))))))))
  · refine Sim.region0 (.run 5 [(22, .one (li .u64 (IntKind.wrap .u64 a0.At.X))), (21, qj a0.At.X), (20, qp 1 2), (19, qp 1 2), (18, qs (r1 ++ r2))] [] (by kernel_rfl) (.bind (og := F60 n (IntKind.wrap .u64 a0.At.X)) ⟨some 23, POp.call false [[]] 60 [Operand.tmp 22], none, [(22, Hint.imm)]⟩ (fun r3 => [(23, qs r3)]) (fun r3 => []) (by kernel_rfl) (fun r3 hr => pOp_eff (by kernel_rfl) (by kernel_rfl) (eff_call (ARGS := [.one (li .u64 (IntKind.wrap .u64 a0.At.X))]) (by kernel_rfl) (args_clean (by kernel_rfl) args_nil) (F60_ok n (IntKind.wrap .u64 a0.At.X) r3 hr) (by kernel_rfl))) (fun r3 => ?_)))
    refine SimI.guard (c := (r1 ++ r2).size + r3.size ≤ 9223372036854775807) ⟨some 24, POp.prim (Prim.bin BinOp.add 9 false false) [Operand.tmp 18, Operand.tmp 23], none, [(18, Hint.imm), (23, Hint.imm)]⟩ [(24, qs ((r1 ++ r2) ++ r3))] [] (by kernel_rfl) (fun hc => pOp_eff (by kernel_rfl) (by kernel_rfl) (eff_prim (by kernel_rfl) (pr_addS _ _ _ (r1 ++ r2) r3 hc))) (.run 4 [(28, .one (li .u64 (IntKind.wrap .u64 a0.At.Y))), (27, qj a0.At.Y), (26, qp 1 3), (25, qp 1 2)] [] (by kernel_rfl) (.bind (og := F60 n (IntKind.wrap .u64 a0.At.Y)) ⟨some 29, POp.call false [[]] 60 [Operand.tmp 28], none, [(28, Hint.imm)]⟩ (fun r4 => [(29, qs r4)]) (fun r4 => []) (by kernel_rfl) (fun r4 hr => pOp_eff (by kernel_rfl) (by kernel_rfl) (eff_call (ARGS := [.one (li .u64 (IntKind.wrap .u64 a0.At.Y))]) (by kernel_rfl) (args_clean (by kernel_rfl) args_nil) (F60_ok n (IntKind.wrap .u64 a0.At.Y) r4 hr) (by kernel_rfl))) (fun r4 => ?_)))
    refine SimI.guard (c := ((r1 ++ r2) ++ r3).size + r4.size ≤ 9223372036854775807) ⟨some 30, POp.prim (Prim.bin BinOp.add 9 false false) [Operand.tmp 24, Operand.tmp 29], none, [(24, Hint.imm), (29, Hint.imm)]⟩ [(30, qs (((r1 ++ r2) ++ r3) ++ r4))] [] (by kernel_rfl) (fun hc => pOp_eff (by kernel_rfl) (by kernel_rfl) (eff_prim (by kernel_rfl) (pr_addS _ _ _ ((r1 ++ r2) ++ r3) r4 hc))) (.run 1 [(3, qs (((r1 ++ r2) ++ r3) ++ r4))] [] (by kernel_rfl) (.done (by kernel_rfl) (.thenN (.pre (ts := [1, 3]) (os := [1]) (ow := []) [(1, qp 1 0), (3, qs (((r1 ++ r2) ++ r3) ++ r4))] [(1, some (.cells (Delta.cells a0)))] (by kernel_rfl) (by kernel_rfl) (by kernel_rfl) ?_))))
    exact F19_j6_ok n a0 (((r1 ++ r2) ++ r3) ++ r4)
  · refine Sim.skip (.thenN (.pre (ts := [1, 3]) (os := [1]) (ow := []) [(1, qp 1 0), (3, qs (r1 ++ r2))] [(1, some (.cells (Delta.cells a0)))] (by kernel_rfl) (by kernel_rfl) (by kernel_rfl) ?_))
    exact F19_j6_ok n a0 (r1 ++ r2)


-- 20: vedette/vedetteref6.Full
def F20_e : Delta → PV × List Ob := fun r => (.agg (Delta.cells r), [])
def F20 (n : Nat) (a0 : Thing) : Option Delta :=
  some (Delta.mk a0.ID 31 a0.At a0.F)
theorem F20_ok (n : Nat) (a0 : Thing) : ∀ r, F20 n a0 = some r → D 20 [.agg (Thing.cells a0)] [] = some (F20_e r) := by
  refine fn_to (D := D) (n := n + 8) (nt := 10) (rs := pc20_r) (c := pc20_c5) (L := [(0, .agg (Thing.cells a0))]) (M := []) (k := 0) rfl rfl rfl rfl rfl rfl rfl ?_
  unfold F20
  exact Sim.seq (.region0 (.run 2 [(2, qp 2 0), (1, qp 1 0)] [(2, some (.cells [lj 0, li .u8 0, lj 0, lj 0, lj 0, ls be, lj 0, ls be, lj 0, ls be, lj 0, ls be])), (1, some (.cells (Thing.cells a0)))] (by kernel_rfl) (.done (by kernel_rfl) (.thenN (.seq (.region0 (.run 8 [(9, .agg [lj a0.ID, li .u8 31, lj a0.At.X, lj a0.At.Y, lj a0.F.a0.N, ls a0.F.a0.Text, lj a0.F.a1.N, ls a0.F.a1.Text, lj a0.F.a2.N, ls a0.F.a2.Text, lj a0.F.a3.N, ls a0.F.a3.Text]), (8, .agg (A4_Field.cells a0.F)), (7, qp 1 3), (6, .agg [lj a0.At.X, lj a0.At.Y]), (5, qp 1 1), (4, qj a0.ID), (3, qp 1 0)] [(2, some (.cells [lj a0.ID, li .u8 31, lj a0.At.X, lj a0.At.Y, lj a0.F.a0.N, ls a0.F.a0.Text, lj a0.F.a1.N, ls a0.F.a1.Text, lj a0.F.a2.N, ls a0.F.a2.Text, lj a0.F.a3.N, ls a0.F.a3.Text]))] (by kernel_rfl) (.done (by kernel_rfl) (.thenN (.ret (.fin (by kernel_rfl))))))))))))


-- 23: vedette/vedetteref6.AllBytes
def F23_e : (ByteArray × Int) → PV × List Ob := fun r => (.tup [.one (ls r.1), .one (li .i64 r.2)], [])
def F23_j13 (n : Nat) (a0 : (List Thing)) (s6 : ByteArray) (i7 : Int) (rec_l8 : ByteArray → Int → Option (ByteArray × Int)) : Option (ByteArray × Int) :=
    (ix a0 i7).bind fun (x14 : Thing) =>
    (F20 n x14).bind fun (r15 : Delta) =>
    (F19 n r15).bind fun (r16 : ByteArray) =>
    if s6.size + r16.size ≤ 9223372036854775807 then
      rec_l8 (s6 ++ r16) (IntKind.wrap .i64 (i7 + 1))
    else none
theorem F23_j13_ok (n : Nat) (a0 : (List Thing)) (s6 : ByteArray) (i7 : Int) (rec_l8 : ByteArray → Int → Option (ByteArray × Int)) (m_l8 : Nat) (ih_l8 : ∀ (s6 : ByteArray) (i7 : Int), SimL Try.prog D (n + 8) m_l8 pc23_c28 [(0, .one (vw Thing.cod a0)), (4, qs s6), (5, qj i7)] [] (rec_l8 s6 i7) (QB 0 (QT Try.prog D (n + 8) pc23_c34 (QF false pc23_r 0 F23_e)))) : Sim Try.prog D (n + 8) pc23_c23 [(0, .one (vw Thing.cod a0)), (4, qs s6), (5, qj i7)] [] (F23_j13 n a0 s6 i7 rec_l8) (QB 1 (QT Try.prog D (n + 8) pc23_c26 (QL Try.prog D (n + 8) m_l8 pc23_c28 (QB 0 (QT Try.prog D (n + 8) pc23_c34 (QF false pc23_r 0 F23_e)))))) := by
    unfold F23_j13
    refine Sim.region [(0, .one (vw Thing.cod a0)), (4, qs s6), (5, qj i7)] [] (by kernel_rfl) (.run 3 [(45, qj i7), (44, .one (vw Thing.cod a0)), (43, qs s6)] [] (by kernel_rfl) (.bind (og := ix a0 i7) ⟨some 46, POp.iaddrS 11 (Operand.tmp 44) (Operand.tmp 45), none, []⟩ (fun x14 => [(46, .one (.eptr (Thing.cod.enc x14) 0))]) (fun x14 => []) (by kernel_rfl) (fun x14 hr => pOp_eff (by kernel_rfl) (by kernel_rfl) (eff_idx (c := Thing.cod) (l := a0) (k := .i64) (n := i7) (by kernel_rfl) (by kernel_rfl) (by kernel_rfl) hr)) (fun x14 => ?_)))
    refine SimI.run 1 [(47, .agg (Thing.cells x14))] [] (by kernel_rfl) (.bind (og := F20 n x14) ⟨some 48, POp.call true [[]] 20 [Operand.tmp 47], none, []⟩ (fun r15 => [(48, .agg (Delta.cells r15))]) (fun r15 => []) (by kernel_rfl) (fun r15 hr => pOp_eff (by kernel_rfl) (by kernel_rfl) (eff_call (ARGS := [.agg (Thing.cells x14)]) (by kernel_rfl) (args_clean (by kernel_rfl) args_nil) (F20_ok n x14 r15 hr) (by kernel_rfl))) (fun r15 => ?_))
    refine SimI.bind (og := F19 n r15) ⟨some 49, POp.call true [[]] 19 [Operand.tmp 48], none, []⟩ (fun r16 => [(49, qs r16)]) (fun r16 => []) (by kernel_rfl) (fun r16 hr => pOp_eff (by kernel_rfl) (by kernel_rfl) (eff_call (ARGS := [.agg (Delta.cells r15)]) (by kernel_rfl) (args_clean (by kernel_rfl) args_nil) (F19_ok n r15 r16 hr) (by kernel_rfl))) (fun r16 => ?_)
    refine SimI.guard (c := s6.size + r16.size ≤ 9223372036854775807) ⟨some 50, POp.prim (Prim.bin BinOp.add 9 false false) [Operand.tmp 43, Operand.tmp 49], none, []⟩ [(50, qs (s6 ++ r16))] [] (by kernel_rfl) (fun hc => pOp_eff (by kernel_rfl) (by kernel_rfl) (eff_prim (by kernel_rfl) (pr_addS _ _ _ s6 r16 hc))) (.run 1 [(4, qs (s6 ++ r16))] [] (by kernel_rfl) (.done (by kernel_rfl) (.blockN (.thenN (.region0 (.run 3 [(5, qj (IntKind.wrap .i64 (i7 + 1))), (18, qj (IntKind.wrap .i64 (i7 + 1))), (17, qj i7)] [] (by kernel_rfl) (.done (by kernel_rfl) (.loopN (.pre (ts := [0, 4, 5]) (os := []) (ow := []) [(0, .one (vw Thing.cod a0)), (4, qs (s6 ++ r16)), (5, qj (IntKind.wrap .i64 (i7 + 1)))] [] (by kernel_rfl) (by kernel_rfl) (by kernel_rfl) ?_)))))))))
    exact ih_l8 (s6 ++ r16) (IntKind.wrap .i64 (i7 + 1))

def F23_l8 (n : Nat) (a0 : (List Thing)) : Nat → ByteArray → Int → Option (ByteArray × Int)
  | 0, _, _ => none
  | m + 1, s6, i7 =>
    if decide (i7 < ((a0).length : Int)) then
      (ix a0 i7).bind fun (x9 : Thing) =>
      (F18 n x9).bind fun (r10 : Bool) =>
      if !(r10) then
        some (ByteArray.empty, 11)
      else
        if decide ((0 : Int) < i7) then
          (ix a0 i7).bind fun (x11 : Thing) =>
          (ix a0 (IntKind.wrap .i64 (i7 - 1))).bind fun (x12 : Thing) =>
          if decide (x11.ID ≤ x12.ID) then
            some (ByteArray.empty, 11)
          else
            F23_j13 n a0 s6 i7 (F23_l8 n a0 m)
        else
          F23_j13 n a0 s6 i7 (F23_l8 n a0 m)
    else
      some (s6, 0)
theorem F23_l8_ok (n : Nat) (a0 : (List Thing)) : ∀ (m : Nat) (s6 : ByteArray) (i7 : Int), SimL Try.prog D (n + 8) m pc23_c28 [(0, .one (vw Thing.cod a0)), (4, qs s6), (5, qj i7)] [] (F23_l8 n a0 m s6 i7) (QB 0 (QT Try.prog D (n + 8) pc23_c34 (QF false pc23_r 0 F23_e))) := by
  intro m_l8
  induction m_l8 with
  | zero => intro s6 i7; exact SimL.zero'  rfl
  | succ m_l8 ih_l8 =>
    intro s6 i7
    refine SimL.succ ?_
    unfold F23_l8
    refine Sim.seq (.seq (.region [(0, .one (vw Thing.cod a0)), (4, qs s6), (5, qj i7)] [] (by kernel_rfl) (.run 4 [(16, qb (decide (i7 < ((a0).length : Int)))), (15, qj ((a0).length : Int)), (14, .one (vw Thing.cod a0)), (13, qj i7)] [] (by kernel_rfl) (.done (by kernel_rfl) (.thenN (.cond (decide (i7 < ((a0).length : Int))) (by kernel_rfl) ?_ ?_))))))
    · refine Sim.skip (.thenN (.seq (.block (.seq (.seq (.region0 (.run 2 [(20, qj i7), (19, .one (vw Thing.cod a0))] [] (by kernel_rfl) (.bind (og := ix a0 i7) ⟨some 21, POp.iaddrS 11 (Operand.tmp 19) (Operand.tmp 20), none, [(19, Hint.imm), (20, Hint.imm)]⟩ (fun x9 => [(21, .one (.eptr (Thing.cod.enc x9) 0))]) (fun x9 => []) (by kernel_rfl) (fun x9 hr => pOp_eff (by kernel_rfl) (by kernel_rfl) (eff_idx (c := Thing.cod) (l := a0) (k := .i64) (n := i7) (by kernel_rfl) (by kernel_rfl) (by kernel_rfl) hr)) (fun x9 => ?_)))))))))
      refine SimI.run 1 [(22, .agg (Thing.cells x9))] [] (by kernel_rfl) (.bind (og := F18 n x9) ⟨some 23, POp.call false [[]] 18 [Operand.tmp 22], none, [(22, Hint.imm)]⟩ (fun r10 => [(23, qb r10)]) (fun r10 => []) (by kernel_rfl) (fun r10 hr => pOp_eff (by kernel_rfl) (by kernel_rfl) (eff_call (ARGS := [.agg (Thing.cells x9)]) (by kernel_rfl) (args_clean (by kernel_rfl) args_nil) (F18_ok n x9 r10 hr) (by kernel_rfl))) (fun r10 => ?_))
      refine SimI.run 2 [(25, qb (!(r10))), (24, qb (!(r10)))] [] (by kernel_rfl) (.split 25 (!(r10)) (by kernel_rfl) ?_ ?_)
      · exact SimI.run 17 [(42, qb true), (41, .tup []), (40, .tup []), (39, .tup []), (38, .tup []), (37, .tup []), (36, .tup []), (35, .tup []), (34, .tup []), (33, .tup []), (32, .tup []), (31, .tup []), (30, .tup []), (29, .tup []), (28, .tup []), (27, .tup []), (26, .tup [])] [] (by kernel_rfl) (.done (by kernel_rfl) (.thenN (.condT (by kernel_rfl) (.seq (.region0 (.run 2 [(3, qj 11), (2, qs be)] [] (by kernel_rfl) (.done (by kernel_rfl) (.thenN (.ret (.thenR (.blockR (.thenR (.loopR (.blockR (.thenR (.fin (by kernel_rfl)))))))))))))))))
      · refine SimI.run 3 [(28, qb (decide ((0 : Int) < i7))), (27, qb (decide ((0 : Int) < i7))), (26, qj i7)] [] (by kernel_rfl) (.split 28 (decide ((0 : Int) < i7)) (by kernel_rfl) ?_ ?_)
        · refine SimI.run 2 [(30, qj i7), (29, .one (vw Thing.cod a0))] [] (by kernel_rfl) (.bind (og := ix a0 i7) ⟨some 31, POp.iaddrS 11 (Operand.tmp 29) (Operand.tmp 30), some (28, true), [(29, Hint.imm), (30, Hint.imm)]⟩ (fun x11 => [(31, .one (.eptr (Thing.cod.enc x11) 0))]) (fun x11 => []) (by kernel_rfl) (fun x11 hr => pOp_eff (by kernel_rfl) (by kernel_rfl) (eff_idx (c := Thing.cod) (l := a0) (k := .i64) (n := i7) (by kernel_rfl) (by kernel_rfl) (by kernel_rfl) hr)) (fun x11 => ?_))
          refine SimI.run 5 [(36, qj (IntKind.wrap .i64 (i7 - 1))), (35, qj i7), (34, .one (vw Thing.cod a0)), (33, qj x11.ID), (32, .one (.eptr (Thing.cod.enc x11) 0))] [] (by kernel_rfl) (.bind (og := ix a0 (IntKind.wrap .i64 (i7 - 1))) ⟨some 37, POp.iaddrS 11 (Operand.tmp 34) (Operand.tmp 36), some (28, true), [(34, Hint.imm), (36, Hint.imm)]⟩ (fun x12 => [(37, .one (.eptr (Thing.cod.enc x12) 0))]) (fun x12 => []) (by kernel_rfl) (fun x12 hr => pOp_eff (by kernel_rfl) (by kernel_rfl) (eff_idx (c := Thing.cod) (l := a0) (k := .i64) (n := IntKind.wrap .i64 (i7 - 1)) (by kernel_rfl) (by kernel_rfl) (by kernel_rfl) hr)) (fun x12 => ?_))
          refine SimI.run 5 [(42, qb (decide (x11.ID ≤ x12.ID))), (41, qb (decide (x11.ID ≤ x12.ID))), (40, qb (decide (x11.ID ≤ x12.ID))), (39, qj x12.ID), (38, .one (.eptr (Thing.cod.enc x12) 0))] [] (by kernel_rfl) (.done (by kernel_rfl) (.thenN (.cond (decide (x11.ID ≤ x12.ID)) (by kernel_rfl) ?_ ?_)))
          · exact Sim.seq (.region0 (.run 2 [(3, qj 11), (2, qs be)] [] (by kernel_rfl) (.done (by kernel_rfl) (.thenN (.ret (.thenR (.blockR (.thenR (.loopR (.blockR (.thenR (.fin (by kernel_rfl)))))))))))))
          · refine Sim.skip (.thenN (.pre (ts := [0, 4, 5]) (os := []) (ow := []) [(0, .one (vw Thing.cod a0)), (4, qs s6), (5, qj i7)] [] (by kernel_rfl) (by kernel_rfl) (by kernel_rfl) ?_))
            exact F23_j13_ok n a0 s6 i7 (F23_l8 n a0 m_l8) m_l8 ih_l8
        · refine SimI.run 14 [(42, qb false), (41, qb false), (40, .tup []), (39, .tup []), (38, .tup []), (37, .tup []), (36, .tup []), (35, .tup []), (34, .tup []), (33, .tup []), (32, .tup []), (31, .tup []), (30, .tup []), (29, .tup [])] [] (by kernel_rfl) (.done (by kernel_rfl) (.thenN (.condF (by kernel_rfl) (.skip (.thenN (.pre (ts := [0, 4, 5]) (os := []) (ow := []) [(0, .one (vw Thing.cod a0)), (4, qs s6), (5, qj i7)] [] (by kernel_rfl) (by kernel_rfl) (by kernel_rfl) ?_))))))
          exact F23_j13_ok n a0 s6 i7 (F23_l8 n a0 m_l8) m_l8 ih_l8
    · exact Sim.exit (.thenX (.loopX (.blockX (.thenN (.seq (.region0 (.run 3 [(3, qj 0), (2, qs s6), (51, qs s6)] [] (by kernel_rfl) (.done (by kernel_rfl) (.thenN (.ret (.fin (by kernel_rfl))))))))))))

def F23 (n : Nat) (a0 : (List Thing)) : Option (ByteArray × Int) :=
  if decide ((200 : Int) < ((a0).length : Int)) then
    some (ByteArray.empty, 13)
  else
    (F60 n (IntKind.wrap .u64 ((a0).length : Int))).bind fun (r1 : ByteArray) =>
    F23_l8 n a0 (n + 8) r1 0
theorem F23_ok (n : Nat) (a0 : (List Thing)) : ∀ r, F23 n a0 = some r → D 23 [.one (vw Thing.cod a0)] [] = some (F23_e r) := by
  refine fn_to (D := D) (n := n + 8) (nt := 52) (rs := pc23_r) (c := pc23_c38) (L := [(0, .one (vw Thing.cod a0))]) (M := []) (k := 0) rfl rfl rfl rfl rfl rfl rfl ?_
  unfold F23
  refine Sim.seq (.region0 (.run 2 [(3, qj 0), (2, qs be)] [] (by kernel_rfl) (.done (by kernel_rfl) (.thenN (.seq (.seq (.region0 (.run 3 [(8, qb (decide ((200 : Int) < ((a0).length : Int)))), (7, qj ((a0).length : Int)), (6, .one (vw Thing.cod a0))] [] (by kernel_rfl) (.done (by kernel_rfl) (.thenN (.cond (decide ((200 : Int) < ((a0).length : Int))) (by kernel_rfl) ?_ ?_)))))))))))
  · exact Sim.seq (.region0 (.run 2 [(3, qj 13), (2, qs be)] [] (by kernel_rfl) (.done (by kernel_rfl) (.thenN (.ret (.thenR (.fin (by kernel_rfl))))))))
  · refine Sim.skip (.thenN (.seq (.region0 (.run 3 [(11, .one (li .u64 (IntKind.wrap .u64 ((a0).length : Int)))), (10, qj ((a0).length : Int)), (9, .one (vw Thing.cod a0))] [] (by kernel_rfl) (.bind (og := F60 n (IntKind.wrap .u64 ((a0).length : Int))) ⟨some 12, POp.call true [[]] 60 [Operand.tmp 11], none, []⟩ (fun r1 => [(12, qs r1)]) (fun r1 => []) (by kernel_rfl) (fun r1 hr => pOp_eff (by kernel_rfl) (by kernel_rfl) (eff_call (ARGS := [.one (li .u64 (IntKind.wrap .u64 ((a0).length : Int)))]) (by kernel_rfl) (args_clean (by kernel_rfl) args_nil) (F60_ok n (IntKind.wrap .u64 ((a0).length : Int)) r1 hr) (by kernel_rfl))) (fun r1 => ?_))))))
    refine SimI.run 1 [(4, qs r1)] [] (by kernel_rfl) (.done (by kernel_rfl) (.thenN (.seq (.seq (.region0 (.run 1 [(5, qj 0)] [] (by kernel_rfl) (.done (by kernel_rfl) (.thenN (.block (.loop (.pre (ts := [0, 4, 5]) (os := []) (ow := []) [(0, .one (vw Thing.cod a0)), (4, qs r1), (5, qj 0)] [] (by kernel_rfl) (by kernel_rfl) (by kernel_rfl) ?_)))))))))))
    exact F23_l8_ok n a0 (n + 8) r1 0


-- 34: vedette/vedetteref6.SameAll
def F34_e : Bool → PV × List Ob := fun r => (.one (lb r), [])
def F34_l4 (n : Nat) (a0 : (List Thing)) (a1 : (List Thing)) : Nat → Int → Option Bool
  | 0, _ => none
  | m + 1, i3 =>
    if decide (i3 < ((a0).length : Int)) then
      (ix a0 i3).bind fun (x5 : Thing) =>
      (ix a1 i3).bind fun (x6 : Thing) =>
      if !(Thing.eqb x5 x6) then
        some false
      else
        (F34_l4 n a0 a1 m) (IntKind.wrap .i64 (i3 + 1))
    else
      some true
theorem F34_l4_ok (n : Nat) (a0 : (List Thing)) (a1 : (List Thing)) : ∀ (m : Nat) (i3 : Int), SimL Try.prog D (n + 8) m pc34_c25 [(0, .one (vw Thing.cod a0)), (1, .one (vw Thing.cod a1)), (5, qj i3)] [] (F34_l4 n a0 a1 m i3) (QB 0 (QT Try.prog D (n + 8) pc34_c31 (QF false pc34_r 0 F34_e))) := by
  intro m_l4
  induction m_l4 with
  | zero => intro i3; exact SimL.zero'  rfl
  | succ m_l4 ih_l4 =>
    intro i3
    refine SimL.succ ?_
    unfold F34_l4
    refine Sim.seq (.seq (.region [(0, .one (vw Thing.cod a0)), (1, .one (vw Thing.cod a1)), (5, qj i3)] [] (by kernel_rfl) (.run 4 [(14, qb (decide (i3 < ((a0).length : Int)))), (13, qj ((a0).length : Int)), (12, .one (vw Thing.cod a0)), (11, qj i3)] [] (by kernel_rfl) (.done (by kernel_rfl) (.thenN (.cond (decide (i3 < ((a0).length : Int))) (by kernel_rfl) ?_ ?_))))))
    · refine Sim.skip (.thenN (.seq (.block (.seq (.region0 (.run 2 [(18, qj i3), (17, .one (vw Thing.cod a0))] [] (by kernel_rfl) (.bind (og := ix a0 i3) ⟨some 19, POp.iaddrS 11 (Operand.tmp 17) (Operand.tmp 18), none, [(17, Hint.imm), (18, Hint.imm)]⟩ (fun x5 => [(19, .one (.eptr (Thing.cod.enc x5) 0))]) (fun x5 => []) (by kernel_rfl) (fun x5 hr => pOp_eff (by kernel_rfl) (by kernel_rfl) (eff_idx (c := Thing.cod) (l := a0) (k := .i64) (n := i3) (by kernel_rfl) (by kernel_rfl) (by kernel_rfl) hr)) (fun x5 => ?_))))))))
      refine SimI.run 3 [(22, qj i3), (21, .one (vw Thing.cod a1)), (20, .agg (Thing.cells x5))] [] (by kernel_rfl) (.bind (og := ix a1 i3) ⟨some 23, POp.iaddrS 11 (Operand.tmp 21) (Operand.tmp 22), none, [(21, Hint.imm), (22, Hint.imm)]⟩ (fun x6 => [(23, .one (.eptr (Thing.cod.enc x6) 0))]) (fun x6 => []) (by kernel_rfl) (fun x6 hr => pOp_eff (by kernel_rfl) (by kernel_rfl) (eff_idx (c := Thing.cod) (l := a1) (k := .i64) (n := i3) (by kernel_rfl) (by kernel_rfl) (by kernel_rfl) hr)) (fun x6 => ?_))
      refine SimI.run 1 [(24, .agg (Thing.cells x6))] [] (by kernel_rfl) (.step ⟨some 25, POp.prim (Prim.bin BinOp.neq 28 false false) [Operand.tmp 20, Operand.tmp 24], none, [(20, Hint.imm), (24, Hint.imm)]⟩ [(25, qb (!(Thing.eqb x5 x6)))] [] (by kernel_rfl) (pOp_eff (by kernel_rfl) (by kernel_rfl) (eff_prim (by kernel_rfl) (Thing_eqn x5 x6 _ _))) (.done (by kernel_rfl) (.thenN (.cond (!(Thing.eqb x5 x6)) (by kernel_rfl) ?_ ?_))))
      · exact Sim.seq (.region0 (.run 1 [(4, qb false)] [] (by kernel_rfl) (.done (by kernel_rfl) (.thenN (.ret (.blockR (.thenR (.loopR (.blockR (.thenR (.fin (by kernel_rfl))))))))))))
      · refine Sim.skip (.blockN (.thenN (.region0 (.run 3 [(5, qj (IntKind.wrap .i64 (i3 + 1))), (16, qj (IntKind.wrap .i64 (i3 + 1))), (15, qj i3)] [] (by kernel_rfl) (.done (by kernel_rfl) (.loopN (.pre (ts := [0, 1, 5]) (os := []) (ow := []) [(0, .one (vw Thing.cod a0)), (1, .one (vw Thing.cod a1)), (5, qj (IntKind.wrap .i64 (i3 + 1)))] [] (by kernel_rfl) (by kernel_rfl) (by kernel_rfl) ?_)))))))
        exact ih_l4 (IntKind.wrap .i64 (i3 + 1))
    · exact Sim.exit (.thenX (.loopX (.blockX (.thenN (.seq (.region0 (.run 1 [(4, qb true)] [] (by kernel_rfl) (.done (by kernel_rfl) (.thenN (.ret (.fin (by kernel_rfl))))))))))))

def F34 (n : Nat) (a0 : (List Thing)) (a1 : (List Thing)) : Option Bool :=
  if ((a0).length : Int) != ((a1).length : Int) then
    some false
  else
    F34_l4 n a0 a1 (n + 8) 0
theorem F34_ok (n : Nat) (a0 : (List Thing)) (a1 : (List Thing)) : ∀ r, F34 n a0 a1 = some r → D 34 [.one (vw Thing.cod a0), .one (vw Thing.cod a1)] [] = some (F34_e r) := by
  refine fn_to (D := D) (n := n + 8) (nt := 26) (rs := pc34_r) (c := pc34_c34) (L := [(0, .one (vw Thing.cod a0)), (1, .one (vw Thing.cod a1))]) (M := []) (k := 0) rfl rfl rfl rfl rfl rfl rfl ?_
  unfold F34
  refine Sim.seq (.region0 (.run 1 [(4, qb false)] [] (by kernel_rfl) (.done (by kernel_rfl) (.thenN (.seq (.seq (.region0 (.run 5 [(10, qb (((a0).length : Int) != ((a1).length : Int))), (9, qj ((a1).length : Int)), (8, .one (vw Thing.cod a1)), (7, qj ((a0).length : Int)), (6, .one (vw Thing.cod a0))] [] (by kernel_rfl) (.done (by kernel_rfl) (.thenN (.cond (((a0).length : Int) != ((a1).length : Int)) (by kernel_rfl) ?_ ?_)))))))))))
  · exact Sim.seq (.region0 (.run 1 [(4, qb false)] [] (by kernel_rfl) (.done (by kernel_rfl) (.thenN (.ret (.thenR (.fin (by kernel_rfl))))))))
  · refine Sim.skip (.thenN (.seq (.seq (.region0 (.run 1 [(5, qj 0)] [] (by kernel_rfl) (.done (by kernel_rfl) (.thenN (.block (.loop (.pre (ts := [0, 1, 5]) (os := []) (ow := []) [(0, .one (vw Thing.cod a0)), (1, .one (vw Thing.cod a1)), (5, qj 0)] [] (by kernel_rfl) (by kernel_rfl) (by kernel_rfl) ?_))))))))))
    exact F34_l4_ok n a0 a1 (n + 8) 0


-- 74: vedette/vedetteref1.Get
def F74_e : (Int × Int × Int) → PV × List Ob := fun r => (.tup [.one (li .u64 r.1), .one (li .i64 r.2.1), .one (li .i64 r.2.2)], [])
def F74_j10 (n : Nat) (i5 : Int) (i6 : Int) (x8 : Int) : Option (Int × Int × Int) :=
    some (bitsI .or .u64 i5 (shlI .u64 (IntKind.wrap .u64 (bitsI .and .u8 x8 127)) (IntKind.wrap .u64 (IntKind.wrap .i64 (7 * i6)))), IntKind.wrap .i64 (i6 + 1), 0)
theorem F74_j10_ok (n : Nat) (i5 : Int) (i6 : Int) (x8 : Int) (m_l7 : Nat) : Sim Try.prog D (n + 8) pc74_c28 [(5, .one (li .u64 (bitsI .or .u64 i5 (shlI .u64 (IntKind.wrap .u64 (bitsI .and .u8 x8 127)) (IntKind.wrap .u64 (IntKind.wrap .i64 (7 * i6))))))), (6, qj i6)] [] (F74_j10 n i5 i6 x8) (QB 1 (QT Try.prog D (n + 8) pc74_c37 (QL Try.prog D (n + 8) m_l7 pc74_c39 (QB 0 (QT Try.prog D (n + 8) pc74_c45 (QF false pc74_r 0 F74_e)))))) := by
    unfold F74_j10
    exact Sim.seq (.region [(5, .one (li .u64 (bitsI .or .u64 i5 (shlI .u64 (IntKind.wrap .u64 (bitsI .and .u8 x8 127)) (IntKind.wrap .u64 (IntKind.wrap .i64 (7 * i6))))))), (6, qj i6)] [] (by kernel_rfl) (.run 6 [(4, qj 0), (3, qj (IntKind.wrap .i64 (i6 + 1))), (2, .one (li .u64 (bitsI .or .u64 i5 (shlI .u64 (IntKind.wrap .u64 (bitsI .and .u8 x8 127)) (IntKind.wrap .u64 (IntKind.wrap .i64 (7 * i6))))))), (42, qj (IntKind.wrap .i64 (i6 + 1))), (41, qj i6), (40, .one (li .u64 (bitsI .or .u64 i5 (shlI .u64 (IntKind.wrap .u64 (bitsI .and .u8 x8 127)) (IntKind.wrap .u64 (IntKind.wrap .i64 (7 * i6)))))))] [] (by kernel_rfl) (.done (by kernel_rfl) (.thenN (.ret (.blockR (.thenR (.loopR (.blockR (.thenR (.fin (by kernel_rfl))))))))))))

def F74_j9 (n : Nat) (i5 : Int) (i6 : Int) (x8 : Int) (rec_l7 : Int → Int → Option (Int × Int × Int)) : Option (Int × Int × Int) :=
    if ¬ (IntKind.wrap .u64 (IntKind.wrap .i64 (7 * i6)) < 0) then
      if decide (x8 < 128) then
        if x8 == 0 then
          if decide ((0 : Int) < i6) then
            some (0, 0, 11)
          else
            F74_j10 n i5 i6 x8
        else
          F74_j10 n i5 i6 x8
      else
        rec_l7 (bitsI .or .u64 i5 (shlI .u64 (IntKind.wrap .u64 (bitsI .and .u8 x8 127)) (IntKind.wrap .u64 (IntKind.wrap .i64 (7 * i6))))) (IntKind.wrap .i64 (i6 + 1))
    else none
theorem F74_j9_ok (n : Nat) (a0 : ByteArray) (i5 : Int) (i6 : Int) (x8 : Int) (rec_l7 : Int → Int → Option (Int × Int × Int)) (m_l7 : Nat) (ih_l7 : ∀ (i5 : Int) (i6 : Int), SimL Try.prog D (n + 8) m_l7 pc74_c39 [(0, qs a0), (5, .one (li .u64 i5)), (6, qj i6)] [] (rec_l7 i5 i6) (QB 0 (QT Try.prog D (n + 8) pc74_c45 (QF false pc74_r 0 F74_e)))) : Sim Try.prog D (n + 8) pc74_c33 [(0, qs a0), (5, .one (li .u64 i5)), (6, qj i6), (7, .one (li .u8 x8))] [] (F74_j9 n i5 i6 x8 rec_l7) (QB 1 (QT Try.prog D (n + 8) pc74_c37 (QL Try.prog D (n + 8) m_l7 pc74_c39 (QB 0 (QT Try.prog D (n + 8) pc74_c45 (QF false pc74_r 0 F74_e)))))) := by
    unfold F74_j9
    refine Sim.seq (.region [(0, qs a0), (5, .one (li .u64 i5)), (6, qj i6), (7, .one (li .u8 x8))] [] (by kernel_rfl) (.run 7 [(29, .one (li .u64 (IntKind.wrap .u64 (IntKind.wrap .i64 (7 * i6))))), (28, qj (IntKind.wrap .i64 (7 * i6))), (27, qj i6), (26, .one (li .u64 (IntKind.wrap .u64 (bitsI .and .u8 x8 127)))), (25, .one (li .u8 (bitsI .and .u8 x8 127))), (24, .one (li .u8 x8)), (23, .one (li .u64 i5))] [] (by kernel_rfl) (.guard (c := ¬ (IntKind.wrap .u64 (IntKind.wrap .i64 (7 * i6)) < 0)) ⟨some 30, POp.prim (Prim.bin BinOp.shl 89 false false) [Operand.tmp 26, Operand.tmp 29], none, []⟩ [(30, .one (li .u64 (shlI .u64 (IntKind.wrap .u64 (bitsI .and .u8 x8 127)) (IntKind.wrap .u64 (IntKind.wrap .i64 (7 * i6))))))] [] (by kernel_rfl) (fun hc => pOp_eff (by kernel_rfl) (by kernel_rfl) (eff_prim (by kernel_rfl) (pr_shl _ _ _ .u64 .u64 (IntKind.wrap .u64 (bitsI .and .u8 x8 127)) (IntKind.wrap .u64 (IntKind.wrap .i64 (7 * i6))) hc))) (.run 2 [(5, .one (li .u64 (bitsI .or .u64 i5 (shlI .u64 (IntKind.wrap .u64 (bitsI .and .u8 x8 127)) (IntKind.wrap .u64 (IntKind.wrap .i64 (7 * i6))))))), (31, .one (li .u64 (bitsI .or .u64 i5 (shlI .u64 (IntKind.wrap .u64 (bitsI .and .u8 x8 127)) (IntKind.wrap .u64 (IntKind.wrap .i64 (7 * i6)))))))] [] (by kernel_rfl) (.done (by kernel_rfl) (.thenN (.seq (.region0 (.run 2 [(33, qb (decide (x8 < 128))), (32, .one (li .u8 x8))] [] (by kernel_rfl) (.done (by kernel_rfl) (.thenN (.cond (decide (x8 < 128)) (by kernel_rfl) ?_ ?_))))))))))))
    · refine Sim.seq (.seq (.region0 (.run 3 [(36, qb (x8 == 0)), (35, qb (x8 == 0)), (34, .one (li .u8 x8))] [] (by kernel_rfl) (.split 36 (x8 == 0) (by kernel_rfl) ?_ ?_))))
      · refine SimI.run 3 [(39, qb (decide ((0 : Int) < i6))), (38, qb (decide ((0 : Int) < i6))), (37, qj i6)] [] (by kernel_rfl) (.done (by kernel_rfl) (.thenN (.cond (decide ((0 : Int) < i6)) (by kernel_rfl) ?_ ?_)))
        · exact Sim.seq (.region0 (.run 3 [(4, qj 11), (3, qj 0), (2, .one (li .u64 0))] [] (by kernel_rfl) (.done (by kernel_rfl) (.thenN (.ret (.thenR (.blockR (.thenR (.loopR (.blockR (.thenR (.fin (by kernel_rfl)))))))))))))
        · refine Sim.skip (.thenN (.pre (ts := [5, 6]) (os := []) (ow := []) [(5, .one (li .u64 (bitsI .or .u64 i5 (shlI .u64 (IntKind.wrap .u64 (bitsI .and .u8 x8 127)) (IntKind.wrap .u64 (IntKind.wrap .i64 (7 * i6))))))), (6, qj i6)] [] (by kernel_rfl) (by kernel_rfl) (by kernel_rfl) ?_))
          exact F74_j10_ok n i5 i6 x8 m_l7
      · refine SimI.run 3 [(39, qb false), (38, .tup []), (37, .tup [])] [] (by kernel_rfl) (.done (by kernel_rfl) (.thenN (.condF (by kernel_rfl) (.skip (.thenN (.pre (ts := [5, 6]) (os := []) (ow := []) [(5, .one (li .u64 (bitsI .or .u64 i5 (shlI .u64 (IntKind.wrap .u64 (bitsI .and .u8 x8 127)) (IntKind.wrap .u64 (IntKind.wrap .i64 (7 * i6))))))), (6, qj i6)] [] (by kernel_rfl) (by kernel_rfl) (by kernel_rfl) ?_))))))
        exact F74_j10_ok n i5 i6 x8 m_l7
    · refine Sim.skip (.blockN (.thenN (.region0 (.run 3 [(6, qj (IntKind.wrap .i64 (i6 + 1))), (13, qj (IntKind.wrap .i64 (i6 + 1))), (12, qj i6)] [] (by kernel_rfl) (.done (by kernel_rfl) (.loopN (.pre (ts := [0, 5, 6]) (os := []) (ow := []) [(0, qs a0), (5, .one (li .u64 (bitsI .or .u64 i5 (shlI .u64 (IntKind.wrap .u64 (bitsI .and .u8 x8 127)) (IntKind.wrap .u64 (IntKind.wrap .i64 (7 * i6))))))), (6, qj (IntKind.wrap .i64 (i6 + 1)))] [] (by kernel_rfl) (by kernel_rfl) (by kernel_rfl) ?_)))))))
      exact ih_l7 (bitsI .or .u64 i5 (shlI .u64 (IntKind.wrap .u64 (bitsI .and .u8 x8 127)) (IntKind.wrap .u64 (IntKind.wrap .i64 (7 * i6))))) (IntKind.wrap .i64 (i6 + 1))

def F74_l7 (n : Nat) (a0 : ByteArray) : Nat → Int → Int → Option (Int × Int × Int)
  | 0, _, _ => none
  | m + 1, i5, i6 =>
    if decide (i6 < (a0.size : Int)) then
      (ix (bytesL a0) i6).bind fun (x8 : Int) =>
      if i6 == 9 then
        if decide ((1 : Int) < x8) then
          some (0, 0, 11)
        else
          F74_j9 n i5 i6 x8 (F74_l7 n a0 m)
      else
        F74_j9 n i5 i6 x8 (F74_l7 n a0 m)
    else
      some (0, 0, 10)
theorem F74_l7_ok (n : Nat) (a0 : ByteArray) : ∀ (m : Nat) (i5 : Int) (i6 : Int), SimL Try.prog D (n + 8) m pc74_c39 [(0, qs a0), (5, .one (li .u64 i5)), (6, qj i6)] [] (F74_l7 n a0 m i5 i6) (QB 0 (QT Try.prog D (n + 8) pc74_c45 (QF false pc74_r 0 F74_e))) := by
  intro m_l7
  induction m_l7 with
  | zero => intro i5 i6; exact SimL.zero'  rfl
  | succ m_l7 ih_l7 =>
    intro i5 i6
    refine SimL.succ ?_
    unfold F74_l7
    refine Sim.seq (.seq (.region [(0, qs a0), (5, .one (li .u64 i5)), (6, qj i6)] [] (by kernel_rfl) (.run 4 [(11, qb (decide (i6 < (a0.size : Int)))), (10, qj (a0.size : Int)), (9, qs a0), (8, qj i6)] [] (by kernel_rfl) (.done (by kernel_rfl) (.thenN (.cond (decide (i6 < (a0.size : Int))) (by kernel_rfl) ?_ ?_))))))
    · refine Sim.skip (.thenN (.seq (.block (.seq (.region0 (.run 2 [(15, qj i6), (14, qs a0)] [] (by kernel_rfl) (.bind (og := ix (bytesL a0) i6) ⟨some 16, POp.prim (Prim.index 9) [Operand.tmp 14, Operand.tmp 15], none, []⟩ (fun x8 => [(16, .one (li .u8 x8))]) (fun x8 => []) (by kernel_rfl) (fun x8 hr => pOp_eff (by kernel_rfl) (by kernel_rfl) (eff_prim (by kernel_rfl) (pr_index (s := a0) (k := .i64) (i := i6) (b := x8) Try.underlying9 hr))) (fun x8 => ?_))))))))
      refine SimI.run 1 [(7, .one (li .u8 x8))] [] (by kernel_rfl) (.done (by kernel_rfl) (.thenN (.seq (.seq (.region0 (.run 3 [(19, qb (i6 == 9)), (18, qb (i6 == 9)), (17, qj i6)] [] (by kernel_rfl) (.split 19 (i6 == 9) (by kernel_rfl) ?_ ?_)))))))
      · refine SimI.run 3 [(22, qb (decide ((1 : Int) < x8))), (21, qb (decide ((1 : Int) < x8))), (20, .one (li .u8 x8))] [] (by kernel_rfl) (.done (by kernel_rfl) (.thenN (.cond (decide ((1 : Int) < x8)) (by kernel_rfl) ?_ ?_)))
        · exact Sim.seq (.region0 (.run 3 [(4, qj 11), (3, qj 0), (2, .one (li .u64 0))] [] (by kernel_rfl) (.done (by kernel_rfl) (.thenN (.ret (.thenR (.blockR (.thenR (.loopR (.blockR (.thenR (.fin (by kernel_rfl)))))))))))))
        · refine Sim.skip (.thenN (.pre (ts := [0, 5, 6, 7]) (os := []) (ow := []) [(0, qs a0), (5, .one (li .u64 i5)), (6, qj i6), (7, .one (li .u8 x8))] [] (by kernel_rfl) (by kernel_rfl) (by kernel_rfl) ?_))
          exact F74_j9_ok n a0 i5 i6 x8 (F74_l7 n a0 m_l7) m_l7 ih_l7
      · refine SimI.run 3 [(22, qb false), (21, .tup []), (20, .tup [])] [] (by kernel_rfl) (.done (by kernel_rfl) (.thenN (.condF (by kernel_rfl) (.skip (.thenN (.pre (ts := [0, 5, 6, 7]) (os := []) (ow := []) [(0, qs a0), (5, .one (li .u64 i5)), (6, qj i6), (7, .one (li .u8 x8))] [] (by kernel_rfl) (by kernel_rfl) (by kernel_rfl) ?_))))))
        exact F74_j9_ok n a0 i5 i6 x8 (F74_l7 n a0 m_l7) m_l7 ih_l7
    · exact Sim.exit (.thenX (.loopX (.blockX (.thenN (.seq (.region0 (.run 3 [(4, qj 10), (3, qj 0), (2, .one (li .u64 0))] [] (by kernel_rfl) (.done (by kernel_rfl) (.thenN (.ret (.fin (by kernel_rfl))))))))))))

def F74 (n : Nat) (a0 : ByteArray) : Option (Int × Int × Int) :=
  F74_l7 n a0 (n + 8) 0 0
theorem F74_ok (n : Nat) (a0 : ByteArray) : ∀ r, F74 n a0 = some r → D 74 [.one (ls a0)] [] = some (F74_e r) := by
  refine fn_to (D := D) (n := n + 8) (nt := 43) (rs := pc74_r) (c := pc74_c48) (L := [(0, qs a0)]) (M := []) (k := 0) rfl rfl rfl rfl rfl rfl rfl ?_
  unfold F74
  refine Sim.seq (.region0 (.run 3 [(4, qj 0), (3, qj 0), (2, .one (li .u64 0))] [] (by kernel_rfl) (.done (by kernel_rfl) (.thenN (.seq (.region0 (.run 1 [(5, .one (li .u64 0))] [] (by kernel_rfl) (.done (by kernel_rfl) (.thenN (.seq (.seq (.region0 (.run 1 [(6, qj 0)] [] (by kernel_rfl) (.done (by kernel_rfl) (.thenN (.block (.loop (.pre (ts := [0, 5, 6]) (os := []) (ow := []) [(0, qs a0), (5, .one (li .u64 0)), (6, qj 0)] [] (by kernel_rfl) (by kernel_rfl) (by kernel_rfl) ?_))))))))))))))))))
  exact F74_l7_ok n a0 (n + 8) 0 0


-- 76: vedette/fields.Diff
def F76_e : (Delta × Bool) → PV × List Ob := fun r => (.tup [.agg (Delta.cells r.1), .one (lb r.2)], [])
def F76_u20 (n : Nat) (a1 : Thing) (i2 : Int) (i3 : Int) (i6 : Int) (s7 : ByteArray) (i10 : Int) (s11 : ByteArray) (i14 : Int) (s15 : ByteArray) (i17 : Int) (i18 : Int) (s19 : ByteArray) : Option (Delta × Bool) :=
    some ((Delta.mk a1.ID i17 (Point.mk i2 i3) (A4.mk (Field.mk i6 s7) (Field.mk i10 s11) (Field.mk i14 s15) (Field.mk i18 s19))), i17 != 0)
theorem F76_u20_ok (n : Nat) (a0 : Thing) (a1 : Thing) (i2 : Int) (i3 : Int) (i6 : Int) (s7 : ByteArray) (i10 : Int) (s11 : ByteArray) (i14 : Int) (s15 : ByteArray) (i17 : Int) (i18 : Int) (s19 : ByteArray) : SimL Try.prog D (n + 8) (n + 4) pc76_c26 [(2, qp 2 0), (4, qp 4 0), (6, qp 6 0), (22, .agg (A4_Field.cells a1.F)), (23, qj 4)] [(2, some (.cells (Thing.cells a0))), (4, some (.cells [lj 0, li .u8 0, lj 0, lj 0, lj 0, ls be, lj 0, ls be, lj 0, ls be, lj 0, ls be])), (6, some (.cells [lj a1.ID, li .u8 i17, lj i2, lj i3, lj i6, ls s7, lj i10, ls s11, lj i14, ls s15, lj i18, ls s19]))] (F76_u20 n a1 i2 i3 i6 s7 i10 s11 i14 s15 i17 i18 s19) (QB 0 (QT Try.prog D (n + 8) pc76_c32 (QF false pc76_r 0 F76_e))) := by
    unfold F76_u20
    exact SimL.succ (.seq (.region [(2, qp 2 0), (4, qp 4 0), (6, qp 6 0), (22, .agg (A4_Field.cells a1.F)), (23, qj 4)] [(2, some (.cells (Thing.cells a0))), (4, some (.cells [lj 0, li .u8 0, lj 0, lj 0, lj 0, ls be, lj 0, ls be, lj 0, ls be, lj 0, ls be])), (6, some (.cells [lj a1.ID, li .u8 i17, lj i2, lj i3, lj i6, ls s7, lj i10, ls s11, lj i14, ls s15, lj i18, ls s19]))] (by kernel_rfl) (.run 1 [(24, qb false)] [] (by kernel_rfl) (.done (by kernel_rfl) (.thenN (.seq (.condF (by kernel_rfl) (.exit (.thenX (.loopX (.blockX (.thenN (.seq (.region0 (.run 6 [(5, qb (i17 != 0)), (47, qb (i17 != 0)), (46, .one (li .u8 i17)), (45, qp 6 1), (44, .agg [lj a1.ID, li .u8 i17, lj i2, lj i3, lj i6, ls s7, lj i10, ls s11, lj i14, ls s15, lj i18, ls s19])] [(4, some (.cells [lj a1.ID, li .u8 i17, lj i2, lj i3, lj i6, ls s7, lj i10, ls s11, lj i14, ls s15, lj i18, ls s19]))] (by kernel_rfl) (.done (by kernel_rfl) (.thenN (.ret (.fin (by kernel_rfl))))))))))))))))))))

def F76_u16 (n : Nat) (a0 : Thing) (a1 : Thing) (i2 : Int) (i3 : Int) (i6 : Int) (s7 : ByteArray) (i10 : Int) (s11 : ByteArray) (i13 : Int) (i14 : Int) (s15 : ByteArray) : Option (Delta × Bool) :=
    if !(Field.eqb a0.F.a3 a1.F.a3) then
      F76_u20 n a1 i2 i3 i6 s7 i10 s11 i14 s15 (bitsI .or .u8 i13 (shlI .u8 2 3)) a1.F.a3.N a1.F.a3.Text
    else
      F76_u20 n a1 i2 i3 i6 s7 i10 s11 i14 s15 i13 0 ByteArray.empty
theorem F76_u16_ok (n : Nat) (a0 : Thing) (a1 : Thing) (i2 : Int) (i3 : Int) (i6 : Int) (s7 : ByteArray) (i10 : Int) (s11 : ByteArray) (i13 : Int) (i14 : Int) (s15 : ByteArray) : SimL Try.prog D (n + 8) (n + 5) pc76_c26 [(2, qp 2 0), (4, qp 4 0), (6, qp 6 0), (22, .agg (A4_Field.cells a1.F)), (23, qj 3)] [(2, some (.cells (Thing.cells a0))), (4, some (.cells [lj 0, li .u8 0, lj 0, lj 0, lj 0, ls be, lj 0, ls be, lj 0, ls be, lj 0, ls be])), (6, some (.cells [lj a1.ID, li .u8 i13, lj i2, lj i3, lj i6, ls s7, lj i10, ls s11, lj i14, ls s15, lj 0, ls be]))] (F76_u16 n a0 a1 i2 i3 i6 s7 i10 s11 i13 i14 s15) (QB 0 (QT Try.prog D (n + 8) pc76_c32 (QF false pc76_r 0 F76_e))) := by
    unfold F76_u16
    refine SimL.succ (.seq (.region [(2, qp 2 0), (4, qp 4 0), (6, qp 6 0), (22, .agg (A4_Field.cells a1.F)), (23, qj 3)] [(2, some (.cells (Thing.cells a0))), (4, some (.cells [lj 0, li .u8 0, lj 0, lj 0, lj 0, ls be, lj 0, ls be, lj 0, ls be, lj 0, ls be])), (6, some (.cells [lj a1.ID, li .u8 i13, lj i2, lj i3, lj i6, ls s7, lj i10, ls s11, lj i14, ls s15, lj 0, ls be]))] (by kernel_rfl) (.run 1 [(24, qb true)] [] (by kernel_rfl) (.done (by kernel_rfl) (.thenN (.seq (.condT (by kernel_rfl) (.skip (.thenN (.seq (.block (.seq (.region0 (.run 5 [(7, qj 3), (8, qp 8 0), (26, .agg [lj a1.F.a3.N, ls a1.F.a3.Text]), (25, qj 3)] [(8, some (.cells [lj a1.F.a3.N, ls a1.F.a3.Text])), (8, some (.cells [lj 0, ls be]))] (by kernel_rfl) (.done (by kernel_rfl) (.thenN (.seq (.region0 (.run 5 [(31, .agg [lj a1.F.a3.N, ls a1.F.a3.Text]), (30, .agg [lj a0.F.a3.N, ls a0.F.a3.Text]), (29, qp 2 9), (28, qp 2 3), (27, qj 3)] [] (by kernel_rfl) (.step ⟨some 32, POp.prim (Prim.bin BinOp.neq 25 false false) [Operand.tmp 30, Operand.tmp 31], none, [(30, Hint.imm), (31, Hint.imm)]⟩ [(32, qb (!(Field.eqb a0.F.a3 a1.F.a3)))] [] (by kernel_rfl) (pOp_eff (by kernel_rfl) (by kernel_rfl) (eff_prim (by kernel_rfl) (Field_eqn a0.F.a3 a1.F.a3 _ _))) (.done (by kernel_rfl) (.thenN (.cond (!(Field.eqb a0.F.a3 a1.F.a3)) (by kernel_rfl) ?_ ?_)))))))))))))))))))))))
    · refine Sim.seq (.region0 (.run 7 [(38, qp 6 1), (37, .one (li .u8 (bitsI .or .u8 i13 (shlI .u8 2 3)))), (36, .one (li .u8 (shlI .u8 2 3))), (35, qj 3), (34, .one (li .u8 i13)), (33, qp 6 1)] [(6, some (.cells [lj a1.ID, li .u8 (bitsI .or .u8 i13 (shlI .u8 2 3)), lj i2, lj i3, lj i6, ls s7, lj i10, ls s11, lj i14, ls s15, lj 0, ls be]))] (by kernel_rfl) (.done (by kernel_rfl) (.thenN (.region0 (.run 5 [(42, qp 6 10), (41, qp 6 4), (40, .agg [lj a1.F.a3.N, ls a1.F.a3.Text]), (39, qj 3)] [(6, some (.cells [lj a1.ID, li .u8 (bitsI .or .u8 i13 (shlI .u8 2 3)), lj i2, lj i3, lj i6, ls s7, lj i10, ls s11, lj i14, ls s15, lj a1.F.a3.N, ls a1.F.a3.Text]))] (by kernel_rfl) (.done (by kernel_rfl) (.blockN (.thenN (.region0 (.run 2 [(23, qj 4), (43, qj 4)] [] (by kernel_rfl) (.done (by kernel_rfl) (.loopN (.pre (ts := [2, 4, 6, 22, 23]) (os := [2, 3, 4, 6, 8]) (ow := []) [(2, qp 2 0), (4, qp 4 0), (6, qp 6 0), (22, .agg (A4_Field.cells a1.F)), (23, qj 4)] [(2, some (.cells (Thing.cells a0))), (4, some (.cells [lj 0, li .u8 0, lj 0, lj 0, lj 0, ls be, lj 0, ls be, lj 0, ls be, lj 0, ls be])), (6, some (.cells [lj a1.ID, li .u8 (bitsI .or .u8 i13 (shlI .u8 2 3)), lj i2, lj i3, lj i6, ls s7, lj i10, ls s11, lj i14, ls s15, lj a1.F.a3.N, ls a1.F.a3.Text]))] (by kernel_rfl) (by kernel_rfl) (by kernel_rfl) ?_))))))))))))))
      exact F76_u20_ok n a0 a1 i2 i3 i6 s7 i10 s11 i14 s15 (bitsI .or .u8 i13 (shlI .u8 2 3)) a1.F.a3.N a1.F.a3.Text
    · refine Sim.skip (.blockN (.thenN (.region0 (.run 2 [(23, qj 4), (43, qj 4)] [] (by kernel_rfl) (.done (by kernel_rfl) (.loopN (.pre (ts := [2, 4, 6, 22, 23]) (os := [2, 3, 4, 6, 8]) (ow := []) [(2, qp 2 0), (4, qp 4 0), (6, qp 6 0), (22, .agg (A4_Field.cells a1.F)), (23, qj 4)] [(2, some (.cells (Thing.cells a0))), (4, some (.cells [lj 0, li .u8 0, lj 0, lj 0, lj 0, ls be, lj 0, ls be, lj 0, ls be, lj 0, ls be])), (6, some (.cells [lj a1.ID, li .u8 i13, lj i2, lj i3, lj i6, ls s7, lj i10, ls s11, lj i14, ls s15, lj 0, ls be]))] (by kernel_rfl) (by kernel_rfl) (by kernel_rfl) ?_)))))))
      exact F76_u20_ok n a0 a1 i2 i3 i6 s7 i10 s11 i14 s15 i13 0 be

def F76_u12 (n : Nat) (a0 : Thing) (a1 : Thing) (i2 : Int) (i3 : Int) (i6 : Int) (s7 : ByteArray) (i9 : Int) (i10 : Int) (s11 : ByteArray) : Option (Delta × Bool) :=
    if !(Field.eqb a0.F.a2 a1.F.a2) then
      F76_u16 n a0 a1 i2 i3 i6 s7 i10 s11 (bitsI .or .u8 i9 (shlI .u8 2 2)) a1.F.a2.N a1.F.a2.Text
    else
      F76_u16 n a0 a1 i2 i3 i6 s7 i10 s11 i9 0 ByteArray.empty
theorem F76_u12_ok (n : Nat) (a0 : Thing) (a1 : Thing) (i2 : Int) (i3 : Int) (i6 : Int) (s7 : ByteArray) (i9 : Int) (i10 : Int) (s11 : ByteArray) : SimL Try.prog D (n + 8) (n + 6) pc76_c26 [(2, qp 2 0), (4, qp 4 0), (6, qp 6 0), (22, .agg (A4_Field.cells a1.F)), (23, qj 2)] [(2, some (.cells (Thing.cells a0))), (4, some (.cells [lj 0, li .u8 0, lj 0, lj 0, lj 0, ls be, lj 0, ls be, lj 0, ls be, lj 0, ls be])), (6, some (.cells [lj a1.ID, li .u8 i9, lj i2, lj i3, lj i6, ls s7, lj i10, ls s11, lj 0, ls be, lj 0, ls be]))] (F76_u12 n a0 a1 i2 i3 i6 s7 i9 i10 s11) (QB 0 (QT Try.prog D (n + 8) pc76_c32 (QF false pc76_r 0 F76_e))) := by
    unfold F76_u12
    refine SimL.succ (.seq (.region [(2, qp 2 0), (4, qp 4 0), (6, qp 6 0), (22, .agg (A4_Field.cells a1.F)), (23, qj 2)] [(2, some (.cells (Thing.cells a0))), (4, some (.cells [lj 0, li .u8 0, lj 0, lj 0, lj 0, ls be, lj 0, ls be, lj 0, ls be, lj 0, ls be])), (6, some (.cells [lj a1.ID, li .u8 i9, lj i2, lj i3, lj i6, ls s7, lj i10, ls s11, lj 0, ls be, lj 0, ls be]))] (by kernel_rfl) (.run 1 [(24, qb true)] [] (by kernel_rfl) (.done (by kernel_rfl) (.thenN (.seq (.condT (by kernel_rfl) (.skip (.thenN (.seq (.block (.seq (.region0 (.run 5 [(7, qj 2), (8, qp 8 0), (26, .agg [lj a1.F.a2.N, ls a1.F.a2.Text]), (25, qj 2)] [(8, some (.cells [lj a1.F.a2.N, ls a1.F.a2.Text])), (8, some (.cells [lj 0, ls be]))] (by kernel_rfl) (.done (by kernel_rfl) (.thenN (.seq (.region0 (.run 5 [(31, .agg [lj a1.F.a2.N, ls a1.F.a2.Text]), (30, .agg [lj a0.F.a2.N, ls a0.F.a2.Text]), (29, qp 2 7), (28, qp 2 3), (27, qj 2)] [] (by kernel_rfl) (.step ⟨some 32, POp.prim (Prim.bin BinOp.neq 25 false false) [Operand.tmp 30, Operand.tmp 31], none, [(30, Hint.imm), (31, Hint.imm)]⟩ [(32, qb (!(Field.eqb a0.F.a2 a1.F.a2)))] [] (by kernel_rfl) (pOp_eff (by kernel_rfl) (by kernel_rfl) (eff_prim (by kernel_rfl) (Field_eqn a0.F.a2 a1.F.a2 _ _))) (.done (by kernel_rfl) (.thenN (.cond (!(Field.eqb a0.F.a2 a1.F.a2)) (by kernel_rfl) ?_ ?_)))))))))))))))))))))))
    · refine Sim.seq (.region0 (.run 7 [(38, qp 6 1), (37, .one (li .u8 (bitsI .or .u8 i9 (shlI .u8 2 2)))), (36, .one (li .u8 (shlI .u8 2 2))), (35, qj 2), (34, .one (li .u8 i9)), (33, qp 6 1)] [(6, some (.cells [lj a1.ID, li .u8 (bitsI .or .u8 i9 (shlI .u8 2 2)), lj i2, lj i3, lj i6, ls s7, lj i10, ls s11, lj 0, ls be, lj 0, ls be]))] (by kernel_rfl) (.done (by kernel_rfl) (.thenN (.region0 (.run 5 [(42, qp 6 8), (41, qp 6 4), (40, .agg [lj a1.F.a2.N, ls a1.F.a2.Text]), (39, qj 2)] [(6, some (.cells [lj a1.ID, li .u8 (bitsI .or .u8 i9 (shlI .u8 2 2)), lj i2, lj i3, lj i6, ls s7, lj i10, ls s11, lj a1.F.a2.N, ls a1.F.a2.Text, lj 0, ls be]))] (by kernel_rfl) (.done (by kernel_rfl) (.blockN (.thenN (.region0 (.run 2 [(23, qj 3), (43, qj 3)] [] (by kernel_rfl) (.done (by kernel_rfl) (.loopN (.pre (ts := [2, 4, 6, 22, 23]) (os := [2, 3, 4, 6, 8]) (ow := []) [(2, qp 2 0), (4, qp 4 0), (6, qp 6 0), (22, .agg (A4_Field.cells a1.F)), (23, qj 3)] [(2, some (.cells (Thing.cells a0))), (4, some (.cells [lj 0, li .u8 0, lj 0, lj 0, lj 0, ls be, lj 0, ls be, lj 0, ls be, lj 0, ls be])), (6, some (.cells [lj a1.ID, li .u8 (bitsI .or .u8 i9 (shlI .u8 2 2)), lj i2, lj i3, lj i6, ls s7, lj i10, ls s11, lj a1.F.a2.N, ls a1.F.a2.Text, lj 0, ls be]))] (by kernel_rfl) (by kernel_rfl) (by kernel_rfl) ?_))))))))))))))
      exact F76_u16_ok n a0 a1 i2 i3 i6 s7 i10 s11 (bitsI .or .u8 i9 (shlI .u8 2 2)) a1.F.a2.N a1.F.a2.Text
    · refine Sim.skip (.blockN (.thenN (.region0 (.run 2 [(23, qj 3), (43, qj 3)] [] (by kernel_rfl) (.done (by kernel_rfl) (.loopN (.pre (ts := [2, 4, 6, 22, 23]) (os := [2, 3, 4, 6, 8]) (ow := []) [(2, qp 2 0), (4, qp 4 0), (6, qp 6 0), (22, .agg (A4_Field.cells a1.F)), (23, qj 3)] [(2, some (.cells (Thing.cells a0))), (4, some (.cells [lj 0, li .u8 0, lj 0, lj 0, lj 0, ls be, lj 0, ls be, lj 0, ls be, lj 0, ls be])), (6, some (.cells [lj a1.ID, li .u8 i9, lj i2, lj i3, lj i6, ls s7, lj i10, ls s11, lj 0, ls be, lj 0, ls be]))] (by kernel_rfl) (by kernel_rfl) (by kernel_rfl) ?_)))))))
      exact F76_u16_ok n a0 a1 i2 i3 i6 s7 i10 s11 i9 0 be

def F76_u8 (n : Nat) (a0 : Thing) (a1 : Thing) (i2 : Int) (i3 : Int) (i5 : Int) (i6 : Int) (s7 : ByteArray) : Option (Delta × Bool) :=
    if !(Field.eqb a0.F.a1 a1.F.a1) then
      F76_u12 n a0 a1 i2 i3 i6 s7 (bitsI .or .u8 i5 (shlI .u8 2 1)) a1.F.a1.N a1.F.a1.Text
    else
      F76_u12 n a0 a1 i2 i3 i6 s7 i5 0 ByteArray.empty
theorem F76_u8_ok (n : Nat) (a0 : Thing) (a1 : Thing) (i2 : Int) (i3 : Int) (i5 : Int) (i6 : Int) (s7 : ByteArray) : SimL Try.prog D (n + 8) (n + 7) pc76_c26 [(2, qp 2 0), (4, qp 4 0), (6, qp 6 0), (22, .agg (A4_Field.cells a1.F)), (23, qj 1)] [(2, some (.cells (Thing.cells a0))), (4, some (.cells [lj 0, li .u8 0, lj 0, lj 0, lj 0, ls be, lj 0, ls be, lj 0, ls be, lj 0, ls be])), (6, some (.cells [lj a1.ID, li .u8 i5, lj i2, lj i3, lj i6, ls s7, lj 0, ls be, lj 0, ls be, lj 0, ls be]))] (F76_u8 n a0 a1 i2 i3 i5 i6 s7) (QB 0 (QT Try.prog D (n + 8) pc76_c32 (QF false pc76_r 0 F76_e))) := by
    unfold F76_u8
    refine SimL.succ (.seq (.region [(2, qp 2 0), (4, qp 4 0), (6, qp 6 0), (22, .agg (A4_Field.cells a1.F)), (23, qj 1)] [(2, some (.cells (Thing.cells a0))), (4, some (.cells [lj 0, li .u8 0, lj 0, lj 0, lj 0, ls be, lj 0, ls be, lj 0, ls be, lj 0, ls be])), (6, some (.cells [lj a1.ID, li .u8 i5, lj i2, lj i3, lj i6, ls s7, lj 0, ls be, lj 0, ls be, lj 0, ls be]))] (by kernel_rfl) (.run 1 [(24, qb true)] [] (by kernel_rfl) (.done (by kernel_rfl) (.thenN (.seq (.condT (by kernel_rfl) (.skip (.thenN (.seq (.block (.seq (.region0 (.run 5 [(7, qj 1), (8, qp 8 0), (26, .agg [lj a1.F.a1.N, ls a1.F.a1.Text]), (25, qj 1)] [(8, some (.cells [lj a1.F.a1.N, ls a1.F.a1.Text])), (8, some (.cells [lj 0, ls be]))] (by kernel_rfl) (.done (by kernel_rfl) (.thenN (.seq (.region0 (.run 5 [(31, .agg [lj a1.F.a1.N, ls a1.F.a1.Text]), (30, .agg [lj a0.F.a1.N, ls a0.F.a1.Text]), (29, qp 2 5), (28, qp 2 3), (27, qj 1)] [] (by kernel_rfl) (.step ⟨some 32, POp.prim (Prim.bin BinOp.neq 25 false false) [Operand.tmp 30, Operand.tmp 31], none, [(30, Hint.imm), (31, Hint.imm)]⟩ [(32, qb (!(Field.eqb a0.F.a1 a1.F.a1)))] [] (by kernel_rfl) (pOp_eff (by kernel_rfl) (by kernel_rfl) (eff_prim (by kernel_rfl) (Field_eqn a0.F.a1 a1.F.a1 _ _))) (.done (by kernel_rfl) (.thenN (.cond (!(Field.eqb a0.F.a1 a1.F.a1)) (by kernel_rfl) ?_ ?_)))))))))))))))))))))))
    · refine Sim.seq (.region0 (.run 7 [(38, qp 6 1), (37, .one (li .u8 (bitsI .or .u8 i5 (shlI .u8 2 1)))), (36, .one (li .u8 (shlI .u8 2 1))), (35, qj 1), (34, .one (li .u8 i5)), (33, qp 6 1)] [(6, some (.cells [lj a1.ID, li .u8 (bitsI .or .u8 i5 (shlI .u8 2 1)), lj i2, lj i3, lj i6, ls s7, lj 0, ls be, lj 0, ls be, lj 0, ls be]))] (by kernel_rfl) (.done (by kernel_rfl) (.thenN (.region0 (.run 5 [(42, qp 6 6), (41, qp 6 4), (40, .agg [lj a1.F.a1.N, ls a1.F.a1.Text]), (39, qj 1)] [(6, some (.cells [lj a1.ID, li .u8 (bitsI .or .u8 i5 (shlI .u8 2 1)), lj i2, lj i3, lj i6, ls s7, lj a1.F.a1.N, ls a1.F.a1.Text, lj 0, ls be, lj 0, ls be]))] (by kernel_rfl) (.done (by kernel_rfl) (.blockN (.thenN (.region0 (.run 2 [(23, qj 2), (43, qj 2)] [] (by kernel_rfl) (.done (by kernel_rfl) (.loopN (.pre (ts := [2, 4, 6, 22, 23]) (os := [2, 3, 4, 6, 8]) (ow := []) [(2, qp 2 0), (4, qp 4 0), (6, qp 6 0), (22, .agg (A4_Field.cells a1.F)), (23, qj 2)] [(2, some (.cells (Thing.cells a0))), (4, some (.cells [lj 0, li .u8 0, lj 0, lj 0, lj 0, ls be, lj 0, ls be, lj 0, ls be, lj 0, ls be])), (6, some (.cells [lj a1.ID, li .u8 (bitsI .or .u8 i5 (shlI .u8 2 1)), lj i2, lj i3, lj i6, ls s7, lj a1.F.a1.N, ls a1.F.a1.Text, lj 0, ls be, lj 0, ls be]))] (by kernel_rfl) (by kernel_rfl) (by kernel_rfl) ?_))))))))))))))
      exact F76_u12_ok n a0 a1 i2 i3 i6 s7 (bitsI .or .u8 i5 (shlI .u8 2 1)) a1.F.a1.N a1.F.a1.Text
    · refine Sim.skip (.blockN (.thenN (.region0 (.run 2 [(23, qj 2), (43, qj 2)] [] (by kernel_rfl) (.done (by kernel_rfl) (.loopN (.pre (ts := [2, 4, 6, 22, 23]) (os := [2, 3, 4, 6, 8]) (ow := []) [(2, qp 2 0), (4, qp 4 0), (6, qp 6 0), (22, .agg (A4_Field.cells a1.F)), (23, qj 2)] [(2, some (.cells (Thing.cells a0))), (4, some (.cells [lj 0, li .u8 0, lj 0, lj 0, lj 0, ls be, lj 0, ls be, lj 0, ls be, lj 0, ls be])), (6, some (.cells [lj a1.ID, li .u8 i5, lj i2, lj i3, lj i6, ls s7, lj 0, ls be, lj 0, ls be, lj 0, ls be]))] (by kernel_rfl) (by kernel_rfl) (by kernel_rfl) ?_)))))))
      exact F76_u12_ok n a0 a1 i2 i3 i6 s7 i5 0 be

def F76_j4 (n : Nat) (a0 : Thing) (a1 : Thing) (i1 : Int) (i2 : Int) (i3 : Int) : Option (Delta × Bool) :=
    if !(Field.eqb a0.F.a0 a1.F.a0) then
      F76_u8 n a0 a1 i2 i3 (bitsI .or .u8 i1 (shlI .u8 2 0)) a1.F.a0.N a1.F.a0.Text
    else
      F76_u8 n a0 a1 i2 i3 i1 0 ByteArray.empty
theorem F76_j4_ok (n : Nat) (a0 : Thing) (a1 : Thing) (i1 : Int) (i2 : Int) (i3 : Int) : Sim Try.prog D (n + 8) pc76_c33 [(2, qp 2 0), (3, qp 3 0), (4, qp 4 0), (6, qp 6 0)] [(2, some (.cells (Thing.cells a0))), (3, some (.cells (Thing.cells a1))), (4, some (.cells [lj 0, li .u8 0, lj 0, lj 0, lj 0, ls be, lj 0, ls be, lj 0, ls be, lj 0, ls be])), (6, some (.cells [lj a1.ID, li .u8 i1, lj i2, lj i3, lj 0, ls be, lj 0, ls be, lj 0, ls be, lj 0, ls be]))] (F76_j4 n a0 a1 i1 i2 i3) (QF false pc76_r 0 F76_e) := by
    unfold F76_j4
    refine Sim.seq (.seq (.region [(2, qp 2 0), (3, qp 3 0), (4, qp 4 0), (6, qp 6 0)] [(2, some (.cells (Thing.cells a0))), (3, some (.cells (Thing.cells a1))), (4, some (.cells [lj 0, li .u8 0, lj 0, lj 0, lj 0, ls be, lj 0, ls be, lj 0, ls be, lj 0, ls be])), (6, some (.cells [lj a1.ID, li .u8 i1, lj i2, lj i3, lj 0, ls be, lj 0, ls be, lj 0, ls be, lj 0, ls be]))] (by kernel_rfl) (.run 3 [(23, qj 0), (22, .agg (A4_Field.cells a1.F)), (21, qp 3 3)] [] (by kernel_rfl) (.done (by kernel_rfl) (.thenN (.block (.loop (.succ (.seq (.region [(2, qp 2 0), (4, qp 4 0), (6, qp 6 0), (22, .agg (A4_Field.cells a1.F)), (23, qj 0)] [(2, some (.cells (Thing.cells a0))), (4, some (.cells [lj 0, li .u8 0, lj 0, lj 0, lj 0, ls be, lj 0, ls be, lj 0, ls be, lj 0, ls be])), (6, some (.cells [lj a1.ID, li .u8 i1, lj i2, lj i3, lj 0, ls be, lj 0, ls be, lj 0, ls be, lj 0, ls be]))] (by kernel_rfl) (.run 1 [(24, qb true)] [] (by kernel_rfl) (.done (by kernel_rfl) (.thenN (.seq (.condT (by kernel_rfl) (.skip (.thenN (.seq (.block (.seq (.region0 (.run 5 [(7, qj 0), (8, qp 8 0), (26, .agg [lj a1.F.a0.N, ls a1.F.a0.Text]), (25, qj 0)] [(8, some (.cells [lj a1.F.a0.N, ls a1.F.a0.Text])), (8, some (.cells [lj 0, ls be]))] (by kernel_rfl) (.done (by kernel_rfl) (.thenN (.seq (.region0 (.run 5 [(31, .agg [lj a1.F.a0.N, ls a1.F.a0.Text]), (30, .agg [lj a0.F.a0.N, ls a0.F.a0.Text]), (29, qp 2 3), (28, qp 2 3), (27, qj 0)] [] (by kernel_rfl) (.step ⟨some 32, POp.prim (Prim.bin BinOp.neq 25 false false) [Operand.tmp 30, Operand.tmp 31], none, [(30, Hint.imm), (31, Hint.imm)]⟩ [(32, qb (!(Field.eqb a0.F.a0 a1.F.a0)))] [] (by kernel_rfl) (pOp_eff (by kernel_rfl) (by kernel_rfl) (eff_prim (by kernel_rfl) (Field_eqn a0.F.a0 a1.F.a0 _ _))) (.done (by kernel_rfl) (.thenN (.cond (!(Field.eqb a0.F.a0 a1.F.a0)) (by kernel_rfl) ?_ ?_)))))))))))))))))))))))))))))))
    · refine Sim.seq (.region0 (.run 7 [(38, qp 6 1), (37, .one (li .u8 (bitsI .or .u8 i1 (shlI .u8 2 0)))), (36, .one (li .u8 (shlI .u8 2 0))), (35, qj 0), (34, .one (li .u8 i1)), (33, qp 6 1)] [(6, some (.cells [lj a1.ID, li .u8 (bitsI .or .u8 i1 (shlI .u8 2 0)), lj i2, lj i3, lj 0, ls be, lj 0, ls be, lj 0, ls be, lj 0, ls be]))] (by kernel_rfl) (.done (by kernel_rfl) (.thenN (.region0 (.run 5 [(42, qp 6 4), (41, qp 6 4), (40, .agg [lj a1.F.a0.N, ls a1.F.a0.Text]), (39, qj 0)] [(6, some (.cells [lj a1.ID, li .u8 (bitsI .or .u8 i1 (shlI .u8 2 0)), lj i2, lj i3, lj a1.F.a0.N, ls a1.F.a0.Text, lj 0, ls be, lj 0, ls be, lj 0, ls be]))] (by kernel_rfl) (.done (by kernel_rfl) (.blockN (.thenN (.region0 (.run 2 [(23, qj 1), (43, qj 1)] [] (by kernel_rfl) (.done (by kernel_rfl) (.loopN (.pre (ts := [2, 4, 6, 22, 23]) (os := [2, 3, 4, 6, 8]) (ow := []) [(2, qp 2 0), (4, qp 4 0), (6, qp 6 0), (22, .agg (A4_Field.cells a1.F)), (23, qj 1)] [(2, some (.cells (Thing.cells a0))), (4, some (.cells [lj 0, li .u8 0, lj 0, lj 0, lj 0, ls be, lj 0, ls be, lj 0, ls be, lj 0, ls be])), (6, some (.cells [lj a1.ID, li .u8 (bitsI .or .u8 i1 (shlI .u8 2 0)), lj i2, lj i3, lj a1.F.a0.N, ls a1.F.a0.Text, lj 0, ls be, lj 0, ls be, lj 0, ls be]))] (by kernel_rfl) (by kernel_rfl) (by kernel_rfl) ?_))))))))))))))
      exact F76_u8_ok n a0 a1 i2 i3 (bitsI .or .u8 i1 (shlI .u8 2 0)) a1.F.a0.N a1.F.a0.Text
    · refine Sim.skip (.blockN (.thenN (.region0 (.run 2 [(23, qj 1), (43, qj 1)] [] (by kernel_rfl) (.done (by kernel_rfl) (.loopN (.pre (ts := [2, 4, 6, 22, 23]) (os := [2, 3, 4, 6, 8]) (ow := []) [(2, qp 2 0), (4, qp 4 0), (6, qp 6 0), (22, .agg (A4_Field.cells a1.F)), (23, qj 1)] [(2, some (.cells (Thing.cells a0))), (4, some (.cells [lj 0, li .u8 0, lj 0, lj 0, lj 0, ls be, lj 0, ls be, lj 0, ls be, lj 0, ls be])), (6, some (.cells [lj a1.ID, li .u8 i1, lj i2, lj i3, lj 0, ls be, lj 0, ls be, lj 0, ls be, lj 0, ls be]))] (by kernel_rfl) (by kernel_rfl) (by kernel_rfl) ?_)))))))
      exact F76_u8_ok n a0 a1 i2 i3 i1 0 be

def F76 (n : Nat) (a0 : Thing) (a1 : Thing) : Option (Delta × Bool) :=
  if !(Point.eqb a0.At a1.At) then
    F76_j4 n a0 a1 1 a1.At.X a1.At.Y
  else
    F76_j4 n a0 a1 0 0 0
theorem F76_ok (n : Nat) (a0 : Thing) (a1 : Thing) : ∀ r, F76 n a0 a1 = some r → D 76 [.agg (Thing.cells a0), .agg (Thing.cells a1)] [] = some (F76_e r) := by
  refine fn_to (D := D) (n := n + 8) (nt := 48) (rs := pc76_r) (c := pc76_c36) (L := [(0, .agg (Thing.cells a0)), (1, .agg (Thing.cells a1))]) (M := []) (k := 0) rfl rfl rfl rfl rfl rfl rfl ?_
  unfold F76
  refine Sim.seq (.region0 (.run 4 [(5, qb false), (4, qp 4 0), (3, qp 3 0), (2, qp 2 0)] [(4, some (.cells [lj 0, li .u8 0, lj 0, lj 0, lj 0, ls be, lj 0, ls be, lj 0, ls be, lj 0, ls be])), (3, some (.cells (Thing.cells a1))), (2, some (.cells (Thing.cells a0)))] (by kernel_rfl) (.done (by kernel_rfl) (.thenN (.seq (.region0 (.run 5 [(6, qp 6 0), (11, .agg [lj a1.ID, li .u8 0, lj 0, lj 0, lj 0, ls be, lj 0, ls be, lj 0, ls be, lj 0, ls be]), (10, qj a1.ID), (9, qp 3 0)] [(6, some (.cells [lj a1.ID, li .u8 0, lj 0, lj 0, lj 0, ls be, lj 0, ls be, lj 0, ls be, lj 0, ls be])), (6, some (.cells [lj 0, li .u8 0, lj 0, lj 0, lj 0, ls be, lj 0, ls be, lj 0, ls be, lj 0, ls be]))] (by kernel_rfl) (.done (by kernel_rfl) (.thenN (.seq (.seq (.region0 (.run 4 [(15, .agg [lj a1.At.X, lj a1.At.Y]), (14, qp 3 1), (13, .agg [lj a0.At.X, lj a0.At.Y]), (12, qp 2 1)] [] (by kernel_rfl) (.step ⟨some 16, POp.prim (Prim.bin BinOp.neq 23 false false) [Operand.tmp 13, Operand.tmp 15], none, []⟩ [(16, qb (!(Point.eqb a0.At a1.At)))] [] (by kernel_rfl) (pOp_eff (by kernel_rfl) (by kernel_rfl) (eff_prim (by kernel_rfl) (Point_eqn a0.At a1.At _ _))) (.done (by kernel_rfl) (.thenN (.cond (!(Point.eqb a0.At a1.At)) (by kernel_rfl) ?_ ?_)))))))))))))))))
  · refine Sim.region0 (.run 6 [(20, qp 6 2), (19, qp 6 1), (18, .agg [lj a1.At.X, lj a1.At.Y]), (17, qp 3 1)] [(6, some (.cells [lj a1.ID, li .u8 1, lj a1.At.X, lj a1.At.Y, lj 0, ls be, lj 0, ls be, lj 0, ls be, lj 0, ls be])), (6, some (.cells [lj a1.ID, li .u8 1, lj 0, lj 0, lj 0, ls be, lj 0, ls be, lj 0, ls be, lj 0, ls be]))] (by kernel_rfl) (.done (by kernel_rfl) (.thenN (.pre (ts := [2, 3, 4, 6]) (os := [2, 3, 4, 6]) (ow := []) [(2, qp 2 0), (3, qp 3 0), (4, qp 4 0), (6, qp 6 0)] [(2, some (.cells (Thing.cells a0))), (3, some (.cells (Thing.cells a1))), (4, some (.cells [lj 0, li .u8 0, lj 0, lj 0, lj 0, ls be, lj 0, ls be, lj 0, ls be, lj 0, ls be])), (6, some (.cells [lj a1.ID, li .u8 1, lj a1.At.X, lj a1.At.Y, lj 0, ls be, lj 0, ls be, lj 0, ls be, lj 0, ls be]))] (by kernel_rfl) (by kernel_rfl) (by kernel_rfl) ?_))))
    exact F76_j4_ok n a0 a1 1 a1.At.X a1.At.Y
  · refine Sim.skip (.thenN (.pre (ts := [2, 3, 4, 6]) (os := [2, 3, 4, 6]) (ow := []) [(2, qp 2 0), (3, qp 3 0), (4, qp 4 0), (6, qp 6 0)] [(2, some (.cells (Thing.cells a0))), (3, some (.cells (Thing.cells a1))), (4, some (.cells [lj 0, li .u8 0, lj 0, lj 0, lj 0, ls be, lj 0, ls be, lj 0, ls be, lj 0, ls be])), (6, some (.cells [lj a1.ID, li .u8 0, lj 0, lj 0, lj 0, ls be, lj 0, ls be, lj 0, ls be, lj 0, ls be]))] (by kernel_rfl) (by kernel_rfl) (by kernel_rfl) ?_))
    exact F76_j4_ok n a0 a1 0 0 0


-- 88: vedette/fields.Apply
def F88_e : Thing → PV × List Ob := fun r => (.agg (Thing.cells r), [])
def F88_u14 (n : Nat) (g13 : Thing) : Option Thing :=
    some g13
theorem F88_u14_ok (n : Nat) (a1 : Delta) (g13 : Thing) : SimL Try.prog D (n + 8) (n + 4) pc88_c23 [(2, qp 2 0), (3, qp 3 0), (4, qp 4 0), (15, .agg (A4_Field.cells a1.F)), (16, qj 4)] [(2, some (.cells (Thing.cells g13))), (3, some (.cells (Delta.cells a1))), (4, some (.cells [lj 0, lj 0, lj 0, lj 0, ls be, lj 0, ls be, lj 0, ls be, lj 0, ls be]))] (F88_u14 n g13) (QB 0 (QT Try.prog D (n + 8) pc88_c29 (QF false pc88_r 0 F88_e))) := by
    unfold F88_u14
    exact SimL.succ (.seq (.region [(2, qp 2 0), (3, qp 3 0), (4, qp 4 0), (15, .agg (A4_Field.cells a1.F)), (16, qj 4)] [(2, some (.cells (Thing.cells g13))), (3, some (.cells (Delta.cells a1))), (4, some (.cells [lj 0, lj 0, lj 0, lj 0, ls be, lj 0, ls be, lj 0, ls be, lj 0, ls be]))] (by kernel_rfl) (.run 1 [(17, qb false)] [] (by kernel_rfl) (.done (by kernel_rfl) (.thenN (.seq (.condF (by kernel_rfl) (.exit (.thenX (.loopX (.blockX (.thenN (.seq (.region0 (.run 2 [(29, .agg (Thing.cells g13))] [(4, some (.cells (Thing.cells g13)))] (by kernel_rfl) (.done (by kernel_rfl) (.thenN (.ret (.fin (by kernel_rfl))))))))))))))))))))

def F88_u11 (n : Nat) (a0 : Thing) (a1 : Delta) (g10 : Thing) : Option Thing :=
    (F99 n a1.Mask 3).bind fun (r12 : Bool) =>
    if r12 then
      F88_u14 n (Thing.mk g10.ID g10.At (A4.mk g10.F.a0 g10.F.a1 g10.F.a2 a1.F.a3))
    else
      F88_u14 n g10
theorem F88_u11_ok (n : Nat) (a0 : Thing) (a1 : Delta) (g10 : Thing) : SimL Try.prog D (n + 8) (n + 5) pc88_c23 [(2, qp 2 0), (3, qp 3 0), (4, qp 4 0), (15, .agg (A4_Field.cells a1.F)), (16, qj 3)] [(2, some (.cells (Thing.cells g10))), (3, some (.cells (Delta.cells a1))), (4, some (.cells [lj 0, lj 0, lj 0, lj 0, ls be, lj 0, ls be, lj 0, ls be, lj 0, ls be]))] (F88_u11 n a0 a1 g10) (QB 0 (QT Try.prog D (n + 8) pc88_c29 (QF false pc88_r 0 F88_e))) := by
    unfold F88_u11
    refine SimL.succ (.seq (.region [(2, qp 2 0), (3, qp 3 0), (4, qp 4 0), (15, .agg (A4_Field.cells a1.F)), (16, qj 3)] [(2, some (.cells (Thing.cells g10))), (3, some (.cells (Delta.cells a1))), (4, some (.cells [lj 0, lj 0, lj 0, lj 0, ls be, lj 0, ls be, lj 0, ls be, lj 0, ls be]))] (by kernel_rfl) (.run 1 [(17, qb true)] [] (by kernel_rfl) (.done (by kernel_rfl) (.thenN (.seq (.condT (by kernel_rfl) (.skip (.thenN (.seq (.block (.seq (.region0 (.run 5 [(5, qj 3), (6, qp 6 0), (19, .agg [lj a1.F.a3.N, ls a1.F.a3.Text]), (18, qj 3)] [(6, some (.cells [lj a1.F.a3.N, ls a1.F.a3.Text])), (6, some (.cells [lj 0, ls be]))] (by kernel_rfl) (.done (by kernel_rfl) (.thenN (.seq (.region0 (.run 3 [(22, qj 3), (21, .one (li .u8 a1.Mask)), (20, qp 3 1)] [] (by kernel_rfl) (.bind (og := F99 n a1.Mask 3) ⟨some 23, POp.call true [[], []] 99 [Operand.tmp 21, Operand.tmp 22], none, []⟩ (fun r12 => [(23, qb r12)]) (fun r12 => []) (by kernel_rfl) (fun r12 hr => pOp_eff (by kernel_rfl) (by kernel_rfl) (eff_call (ARGS := [.one (li .u8 a1.Mask), qj 3]) (by kernel_rfl) (args_clean (by kernel_rfl) (args_clean (by kernel_rfl) args_nil)) (F99_ok n a1.Mask 3 r12 hr) (by kernel_rfl))) (fun r12 => ?_)))))))))))))))))))))
    refine SimI.done (by kernel_rfl) (.thenN (.cond r12 (by kernel_rfl) ?_ ?_))
    · refine Sim.region0 (.run 5 [(27, qp 2 9), (26, qp 2 3), (25, .agg [lj a1.F.a3.N, ls a1.F.a3.Text]), (24, qj 3)] [(2, some (.cells [lj g10.ID, lj g10.At.X, lj g10.At.Y, lj g10.F.a0.N, ls g10.F.a0.Text, lj g10.F.a1.N, ls g10.F.a1.Text, lj g10.F.a2.N, ls g10.F.a2.Text, lj a1.F.a3.N, ls a1.F.a3.Text]))] (by kernel_rfl) (.done (by kernel_rfl) (.blockN (.thenN (.region0 (.run 2 [(16, qj 4), (28, qj 4)] [] (by kernel_rfl) (.done (by kernel_rfl) (.loopN (.pre (ts := [2, 3, 4, 15, 16]) (os := [2, 3, 4, 6]) (ow := []) [(2, qp 2 0), (3, qp 3 0), (4, qp 4 0), (15, .agg (A4_Field.cells a1.F)), (16, qj 4)] [(2, some (.cells [lj g10.ID, lj g10.At.X, lj g10.At.Y, lj g10.F.a0.N, ls g10.F.a0.Text, lj g10.F.a1.N, ls g10.F.a1.Text, lj g10.F.a2.N, ls g10.F.a2.Text, lj a1.F.a3.N, ls a1.F.a3.Text])), (3, some (.cells (Delta.cells a1))), (4, some (.cells [lj 0, lj 0, lj 0, lj 0, ls be, lj 0, ls be, lj 0, ls be, lj 0, ls be]))] (by kernel_rfl) (by kernel_rfl) (by kernel_rfl) ?_)))))))))
      exact F88_u14_ok n a1 (Thing.mk g10.ID g10.At (A4.mk g10.F.a0 g10.F.a1 g10.F.a2 a1.F.a3))
    · refine Sim.skip (.blockN (.thenN (.region0 (.run 2 [(16, qj 4), (28, qj 4)] [] (by kernel_rfl) (.done (by kernel_rfl) (.loopN (.pre (ts := [2, 3, 4, 15, 16]) (os := [2, 3, 4, 6]) (ow := []) [(2, qp 2 0), (3, qp 3 0), (4, qp 4 0), (15, .agg (A4_Field.cells a1.F)), (16, qj 4)] [(2, some (.cells (Thing.cells g10))), (3, some (.cells (Delta.cells a1))), (4, some (.cells [lj 0, lj 0, lj 0, lj 0, ls be, lj 0, ls be, lj 0, ls be, lj 0, ls be]))] (by kernel_rfl) (by kernel_rfl) (by kernel_rfl) ?_)))))))
      exact F88_u14_ok n a1 g10

def F88_u8 (n : Nat) (a0 : Thing) (a1 : Delta) (g7 : Thing) : Option Thing :=
    (F99 n a1.Mask 2).bind fun (r9 : Bool) =>
    if r9 then
      F88_u11 n a0 a1 (Thing.mk g7.ID g7.At (A4.mk g7.F.a0 g7.F.a1 a1.F.a2 g7.F.a3))
    else
      F88_u11 n a0 a1 g7
theorem F88_u8_ok (n : Nat) (a0 : Thing) (a1 : Delta) (g7 : Thing) : SimL Try.prog D (n + 8) (n + 6) pc88_c23 [(2, qp 2 0), (3, qp 3 0), (4, qp 4 0), (15, .agg (A4_Field.cells a1.F)), (16, qj 2)] [(2, some (.cells (Thing.cells g7))), (3, some (.cells (Delta.cells a1))), (4, some (.cells [lj 0, lj 0, lj 0, lj 0, ls be, lj 0, ls be, lj 0, ls be, lj 0, ls be]))] (F88_u8 n a0 a1 g7) (QB 0 (QT Try.prog D (n + 8) pc88_c29 (QF false pc88_r 0 F88_e))) := by
    unfold F88_u8
    refine SimL.succ (.seq (.region [(2, qp 2 0), (3, qp 3 0), (4, qp 4 0), (15, .agg (A4_Field.cells a1.F)), (16, qj 2)] [(2, some (.cells (Thing.cells g7))), (3, some (.cells (Delta.cells a1))), (4, some (.cells [lj 0, lj 0, lj 0, lj 0, ls be, lj 0, ls be, lj 0, ls be, lj 0, ls be]))] (by kernel_rfl) (.run 1 [(17, qb true)] [] (by kernel_rfl) (.done (by kernel_rfl) (.thenN (.seq (.condT (by kernel_rfl) (.skip (.thenN (.seq (.block (.seq (.region0 (.run 5 [(5, qj 2), (6, qp 6 0), (19, .agg [lj a1.F.a2.N, ls a1.F.a2.Text]), (18, qj 2)] [(6, some (.cells [lj a1.F.a2.N, ls a1.F.a2.Text])), (6, some (.cells [lj 0, ls be]))] (by kernel_rfl) (.done (by kernel_rfl) (.thenN (.seq (.region0 (.run 3 [(22, qj 2), (21, .one (li .u8 a1.Mask)), (20, qp 3 1)] [] (by kernel_rfl) (.bind (og := F99 n a1.Mask 2) ⟨some 23, POp.call true [[], []] 99 [Operand.tmp 21, Operand.tmp 22], none, []⟩ (fun r9 => [(23, qb r9)]) (fun r9 => []) (by kernel_rfl) (fun r9 hr => pOp_eff (by kernel_rfl) (by kernel_rfl) (eff_call (ARGS := [.one (li .u8 a1.Mask), qj 2]) (by kernel_rfl) (args_clean (by kernel_rfl) (args_clean (by kernel_rfl) args_nil)) (F99_ok n a1.Mask 2 r9 hr) (by kernel_rfl))) (fun r9 => ?_)))))))))))))))))))))
    refine SimI.done (by kernel_rfl) (.thenN (.cond r9 (by kernel_rfl) ?_ ?_))
    · refine Sim.region0 (.run 5 [(27, qp 2 7), (26, qp 2 3), (25, .agg [lj a1.F.a2.N, ls a1.F.a2.Text]), (24, qj 2)] [(2, some (.cells [lj g7.ID, lj g7.At.X, lj g7.At.Y, lj g7.F.a0.N, ls g7.F.a0.Text, lj g7.F.a1.N, ls g7.F.a1.Text, lj a1.F.a2.N, ls a1.F.a2.Text, lj g7.F.a3.N, ls g7.F.a3.Text]))] (by kernel_rfl) (.done (by kernel_rfl) (.blockN (.thenN (.region0 (.run 2 [(16, qj 3), (28, qj 3)] [] (by kernel_rfl) (.done (by kernel_rfl) (.loopN (.pre (ts := [2, 3, 4, 15, 16]) (os := [2, 3, 4, 6]) (ow := []) [(2, qp 2 0), (3, qp 3 0), (4, qp 4 0), (15, .agg (A4_Field.cells a1.F)), (16, qj 3)] [(2, some (.cells [lj g7.ID, lj g7.At.X, lj g7.At.Y, lj g7.F.a0.N, ls g7.F.a0.Text, lj g7.F.a1.N, ls g7.F.a1.Text, lj a1.F.a2.N, ls a1.F.a2.Text, lj g7.F.a3.N, ls g7.F.a3.Text])), (3, some (.cells (Delta.cells a1))), (4, some (.cells [lj 0, lj 0, lj 0, lj 0, ls be, lj 0, ls be, lj 0, ls be, lj 0, ls be]))] (by kernel_rfl) (by kernel_rfl) (by kernel_rfl) ?_)))))))))
      exact F88_u11_ok n a0 a1 (Thing.mk g7.ID g7.At (A4.mk g7.F.a0 g7.F.a1 a1.F.a2 g7.F.a3))
    · refine Sim.skip (.blockN (.thenN (.region0 (.run 2 [(16, qj 3), (28, qj 3)] [] (by kernel_rfl) (.done (by kernel_rfl) (.loopN (.pre (ts := [2, 3, 4, 15, 16]) (os := [2, 3, 4, 6]) (ow := []) [(2, qp 2 0), (3, qp 3 0), (4, qp 4 0), (15, .agg (A4_Field.cells a1.F)), (16, qj 3)] [(2, some (.cells (Thing.cells g7))), (3, some (.cells (Delta.cells a1))), (4, some (.cells [lj 0, lj 0, lj 0, lj 0, ls be, lj 0, ls be, lj 0, ls be, lj 0, ls be]))] (by kernel_rfl) (by kernel_rfl) (by kernel_rfl) ?_)))))))
      exact F88_u11_ok n a0 a1 g7

def F88_u5 (n : Nat) (a0 : Thing) (a1 : Delta) (g4 : Thing) : Option Thing :=
    (F99 n a1.Mask 1).bind fun (r6 : Bool) =>
    if r6 then
      F88_u8 n a0 a1 (Thing.mk g4.ID g4.At (A4.mk g4.F.a0 a1.F.a1 g4.F.a2 g4.F.a3))
    else
      F88_u8 n a0 a1 g4
theorem F88_u5_ok (n : Nat) (a0 : Thing) (a1 : Delta) (g4 : Thing) : SimL Try.prog D (n + 8) (n + 7) pc88_c23 [(2, qp 2 0), (3, qp 3 0), (4, qp 4 0), (15, .agg (A4_Field.cells a1.F)), (16, qj 1)] [(2, some (.cells (Thing.cells g4))), (3, some (.cells (Delta.cells a1))), (4, some (.cells [lj 0, lj 0, lj 0, lj 0, ls be, lj 0, ls be, lj 0, ls be, lj 0, ls be]))] (F88_u5 n a0 a1 g4) (QB 0 (QT Try.prog D (n + 8) pc88_c29 (QF false pc88_r 0 F88_e))) := by
    unfold F88_u5
    refine SimL.succ (.seq (.region [(2, qp 2 0), (3, qp 3 0), (4, qp 4 0), (15, .agg (A4_Field.cells a1.F)), (16, qj 1)] [(2, some (.cells (Thing.cells g4))), (3, some (.cells (Delta.cells a1))), (4, some (.cells [lj 0, lj 0, lj 0, lj 0, ls be, lj 0, ls be, lj 0, ls be, lj 0, ls be]))] (by kernel_rfl) (.run 1 [(17, qb true)] [] (by kernel_rfl) (.done (by kernel_rfl) (.thenN (.seq (.condT (by kernel_rfl) (.skip (.thenN (.seq (.block (.seq (.region0 (.run 5 [(5, qj 1), (6, qp 6 0), (19, .agg [lj a1.F.a1.N, ls a1.F.a1.Text]), (18, qj 1)] [(6, some (.cells [lj a1.F.a1.N, ls a1.F.a1.Text])), (6, some (.cells [lj 0, ls be]))] (by kernel_rfl) (.done (by kernel_rfl) (.thenN (.seq (.region0 (.run 3 [(22, qj 1), (21, .one (li .u8 a1.Mask)), (20, qp 3 1)] [] (by kernel_rfl) (.bind (og := F99 n a1.Mask 1) ⟨some 23, POp.call true [[], []] 99 [Operand.tmp 21, Operand.tmp 22], none, []⟩ (fun r6 => [(23, qb r6)]) (fun r6 => []) (by kernel_rfl) (fun r6 hr => pOp_eff (by kernel_rfl) (by kernel_rfl) (eff_call (ARGS := [.one (li .u8 a1.Mask), qj 1]) (by kernel_rfl) (args_clean (by kernel_rfl) (args_clean (by kernel_rfl) args_nil)) (F99_ok n a1.Mask 1 r6 hr) (by kernel_rfl))) (fun r6 => ?_)))))))))))))))))))))
    refine SimI.done (by kernel_rfl) (.thenN (.cond r6 (by kernel_rfl) ?_ ?_))
    · refine Sim.region0 (.run 5 [(27, qp 2 5), (26, qp 2 3), (25, .agg [lj a1.F.a1.N, ls a1.F.a1.Text]), (24, qj 1)] [(2, some (.cells [lj g4.ID, lj g4.At.X, lj g4.At.Y, lj g4.F.a0.N, ls g4.F.a0.Text, lj a1.F.a1.N, ls a1.F.a1.Text, lj g4.F.a2.N, ls g4.F.a2.Text, lj g4.F.a3.N, ls g4.F.a3.Text]))] (by kernel_rfl) (.done (by kernel_rfl) (.blockN (.thenN (.region0 (.run 2 [(16, qj 2), (28, qj 2)] [] (by kernel_rfl) (.done (by kernel_rfl) (.loopN (.pre (ts := [2, 3, 4, 15, 16]) (os := [2, 3, 4, 6]) (ow := []) [(2, qp 2 0), (3, qp 3 0), (4, qp 4 0), (15, .agg (A4_Field.cells a1.F)), (16, qj 2)] [(2, some (.cells [lj g4.ID, lj g4.At.X, lj g4.At.Y, lj g4.F.a0.N, ls g4.F.a0.Text, lj a1.F.a1.N, ls a1.F.a1.Text, lj g4.F.a2.N, ls g4.F.a2.Text, lj g4.F.a3.N, ls g4.F.a3.Text])), (3, some (.cells (Delta.cells a1))), (4, some (.cells [lj 0, lj 0, lj 0, lj 0, ls be, lj 0, ls be, lj 0, ls be, lj 0, ls be]))] (by kernel_rfl) (by kernel_rfl) (by kernel_rfl) ?_)))))))))
      exact F88_u8_ok n a0 a1 (Thing.mk g4.ID g4.At (A4.mk g4.F.a0 a1.F.a1 g4.F.a2 g4.F.a3))
    · refine Sim.skip (.blockN (.thenN (.region0 (.run 2 [(16, qj 2), (28, qj 2)] [] (by kernel_rfl) (.done (by kernel_rfl) (.loopN (.pre (ts := [2, 3, 4, 15, 16]) (os := [2, 3, 4, 6]) (ow := []) [(2, qp 2 0), (3, qp 3 0), (4, qp 4 0), (15, .agg (A4_Field.cells a1.F)), (16, qj 2)] [(2, some (.cells (Thing.cells g4))), (3, some (.cells (Delta.cells a1))), (4, some (.cells [lj 0, lj 0, lj 0, lj 0, ls be, lj 0, ls be, lj 0, ls be, lj 0, ls be]))] (by kernel_rfl) (by kernel_rfl) (by kernel_rfl) ?_)))))))
      exact F88_u8_ok n a0 a1 g4

def F88_j2 (n : Nat) (a0 : Thing) (a1 : Delta) (g1 : Thing) : Option Thing :=
    (F99 n a1.Mask 0).bind fun (r3 : Bool) =>
    if r3 then
      F88_u5 n a0 a1 (Thing.mk g1.ID g1.At (A4.mk a1.F.a0 g1.F.a1 g1.F.a2 g1.F.a3))
    else
      F88_u5 n a0 a1 g1
theorem F88_j2_ok (n : Nat) (a0 : Thing) (a1 : Delta) (g1 : Thing) : Sim Try.prog D (n + 8) pc88_c30 [(2, qp 2 0), (3, qp 3 0), (4, qp 4 0)] [(2, some (.cells (Thing.cells g1))), (3, some (.cells (Delta.cells a1))), (4, some (.cells [lj 0, lj 0, lj 0, lj 0, ls be, lj 0, ls be, lj 0, ls be, lj 0, ls be]))] (F88_j2 n a0 a1 g1) (QF false pc88_r 0 F88_e) := by
    unfold F88_j2
    refine Sim.seq (.seq (.region [(2, qp 2 0), (3, qp 3 0), (4, qp 4 0)] [(2, some (.cells (Thing.cells g1))), (3, some (.cells (Delta.cells a1))), (4, some (.cells [lj 0, lj 0, lj 0, lj 0, ls be, lj 0, ls be, lj 0, ls be, lj 0, ls be]))] (by kernel_rfl) (.run 3 [(16, qj 0), (15, .agg (A4_Field.cells a1.F)), (14, qp 3 4)] [] (by kernel_rfl) (.done (by kernel_rfl) (.thenN (.block (.loop (.succ (.seq (.region [(2, qp 2 0), (3, qp 3 0), (4, qp 4 0), (15, .agg (A4_Field.cells a1.F)), (16, qj 0)] [(2, some (.cells (Thing.cells g1))), (3, some (.cells (Delta.cells a1))), (4, some (.cells [lj 0, lj 0, lj 0, lj 0, ls be, lj 0, ls be, lj 0, ls be, lj 0, ls be]))] (by kernel_rfl) (.run 1 [(17, qb true)] [] (by kernel_rfl) (.done (by kernel_rfl) (.thenN (.seq (.condT (by kernel_rfl) (.skip (.thenN (.seq (.block (.seq (.region0 (.run 5 [(5, qj 0), (6, qp 6 0), (19, .agg [lj a1.F.a0.N, ls a1.F.a0.Text]), (18, qj 0)] [(6, some (.cells [lj a1.F.a0.N, ls a1.F.a0.Text])), (6, some (.cells [lj 0, ls be]))] (by kernel_rfl) (.done (by kernel_rfl) (.thenN (.seq (.region0 (.run 3 [(22, qj 0), (21, .one (li .u8 a1.Mask)), (20, qp 3 1)] [] (by kernel_rfl) (.bind (og := F99 n a1.Mask 0) ⟨some 23, POp.call true [[], []] 99 [Operand.tmp 21, Operand.tmp 22], none, []⟩ (fun r3 => [(23, qb r3)]) (fun r3 => []) (by kernel_rfl) (fun r3 hr => pOp_eff (by kernel_rfl) (by kernel_rfl) (eff_call (ARGS := [.one (li .u8 a1.Mask), qj 0]) (by kernel_rfl) (args_clean (by kernel_rfl) (args_clean (by kernel_rfl) args_nil)) (F99_ok n a1.Mask 0 r3 hr) (by kernel_rfl))) (fun r3 => ?_)))))))))))))))))))))))))))))
    refine SimI.done (by kernel_rfl) (.thenN (.cond r3 (by kernel_rfl) ?_ ?_))
    · refine Sim.region0 (.run 5 [(27, qp 2 3), (26, qp 2 3), (25, .agg [lj a1.F.a0.N, ls a1.F.a0.Text]), (24, qj 0)] [(2, some (.cells [lj g1.ID, lj g1.At.X, lj g1.At.Y, lj a1.F.a0.N, ls a1.F.a0.Text, lj g1.F.a1.N, ls g1.F.a1.Text, lj g1.F.a2.N, ls g1.F.a2.Text, lj g1.F.a3.N, ls g1.F.a3.Text]))] (by kernel_rfl) (.done (by kernel_rfl) (.blockN (.thenN (.region0 (.run 2 [(16, qj 1), (28, qj 1)] [] (by kernel_rfl) (.done (by kernel_rfl) (.loopN (.pre (ts := [2, 3, 4, 15, 16]) (os := [2, 3, 4, 6]) (ow := []) [(2, qp 2 0), (3, qp 3 0), (4, qp 4 0), (15, .agg (A4_Field.cells a1.F)), (16, qj 1)] [(2, some (.cells [lj g1.ID, lj g1.At.X, lj g1.At.Y, lj a1.F.a0.N, ls a1.F.a0.Text, lj g1.F.a1.N, ls g1.F.a1.Text, lj g1.F.a2.N, ls g1.F.a2.Text, lj g1.F.a3.N, ls g1.F.a3.Text])), (3, some (.cells (Delta.cells a1))), (4, some (.cells [lj 0, lj 0, lj 0, lj 0, ls be, lj 0, ls be, lj 0, ls be, lj 0, ls be]))] (by kernel_rfl) (by kernel_rfl) (by kernel_rfl) ?_)))))))))
      exact F88_u5_ok n a0 a1 (Thing.mk g1.ID g1.At (A4.mk a1.F.a0 g1.F.a1 g1.F.a2 g1.F.a3))
    · refine Sim.skip (.blockN (.thenN (.region0 (.run 2 [(16, qj 1), (28, qj 1)] [] (by kernel_rfl) (.done (by kernel_rfl) (.loopN (.pre (ts := [2, 3, 4, 15, 16]) (os := [2, 3, 4, 6]) (ow := []) [(2, qp 2 0), (3, qp 3 0), (4, qp 4 0), (15, .agg (A4_Field.cells a1.F)), (16, qj 1)] [(2, some (.cells (Thing.cells g1))), (3, some (.cells (Delta.cells a1))), (4, some (.cells [lj 0, lj 0, lj 0, lj 0, ls be, lj 0, ls be, lj 0, ls be, lj 0, ls be]))] (by kernel_rfl) (by kernel_rfl) (by kernel_rfl) ?_)))))))
      exact F88_u5_ok n a0 a1 g1

def F88 (n : Nat) (a0 : Thing) (a1 : Delta) : Option Thing :=
  if (bitsI .and .u8 a1.Mask 1) != 0 then
    F88_j2 n a0 a1 (Thing.mk a0.ID a1.At a0.F)
  else
    F88_j2 n a0 a1 a0
theorem F88_ok (n : Nat) (a0 : Thing) (a1 : Delta) : ∀ r, F88 n a0 a1 = some r → D 88 [.agg (Thing.cells a0), .agg (Delta.cells a1)] [] = some (F88_e r) := by
  refine fn_to (D := D) (n := n + 8) (nt := 30) (rs := pc88_r) (c := pc88_c32) (L := [(0, .agg (Thing.cells a0)), (1, .agg (Delta.cells a1))]) (M := []) (k := 0) rfl rfl rfl rfl rfl rfl rfl ?_
  unfold F88
  refine Sim.seq (.region0 (.run 3 [(4, qp 4 0), (3, qp 3 0), (2, qp 2 0)] [(4, some (.cells [lj 0, lj 0, lj 0, lj 0, ls be, lj 0, ls be, lj 0, ls be, lj 0, ls be])), (3, some (.cells (Delta.cells a1))), (2, some (.cells (Thing.cells a0)))] (by kernel_rfl) (.done (by kernel_rfl) (.thenN (.seq (.seq (.region0 (.run 4 [(10, qb ((bitsI .and .u8 a1.Mask 1) != 0)), (9, .one (li .u8 (bitsI .and .u8 a1.Mask 1))), (8, .one (li .u8 a1.Mask)), (7, qp 3 1)] [] (by kernel_rfl) (.done (by kernel_rfl) (.thenN (.cond ((bitsI .and .u8 a1.Mask 1) != 0) (by kernel_rfl) ?_ ?_)))))))))))
  · refine Sim.region0 (.run 4 [(13, qp 2 1), (12, .agg [lj a1.At.X, lj a1.At.Y]), (11, qp 3 2)] [(2, some (.cells [lj a0.ID, lj a1.At.X, lj a1.At.Y, lj a0.F.a0.N, ls a0.F.a0.Text, lj a0.F.a1.N, ls a0.F.a1.Text, lj a0.F.a2.N, ls a0.F.a2.Text, lj a0.F.a3.N, ls a0.F.a3.Text]))] (by kernel_rfl) (.done (by kernel_rfl) (.thenN (.pre (ts := [2, 3, 4]) (os := [2, 3, 4]) (ow := []) [(2, qp 2 0), (3, qp 3 0), (4, qp 4 0)] [(2, some (.cells [lj a0.ID, lj a1.At.X, lj a1.At.Y, lj a0.F.a0.N, ls a0.F.a0.Text, lj a0.F.a1.N, ls a0.F.a1.Text, lj a0.F.a2.N, ls a0.F.a2.Text, lj a0.F.a3.N, ls a0.F.a3.Text])), (3, some (.cells (Delta.cells a1))), (4, some (.cells [lj 0, lj 0, lj 0, lj 0, ls be, lj 0, ls be, lj 0, ls be, lj 0, ls be]))] (by kernel_rfl) (by kernel_rfl) (by kernel_rfl) ?_))))
    exact F88_j2_ok n a0 a1 (Thing.mk a0.ID a1.At a0.F)
  · refine Sim.skip (.thenN (.pre (ts := [2, 3, 4]) (os := [2, 3, 4]) (ow := []) [(2, qp 2 0), (3, qp 3 0), (4, qp 4 0)] [(2, some (.cells (Thing.cells a0))), (3, some (.cells (Delta.cells a1))), (4, some (.cells [lj 0, lj 0, lj 0, lj 0, ls be, lj 0, ls be, lj 0, ls be, lj 0, ls be]))] (by kernel_rfl) (by kernel_rfl) (by kernel_rfl) ?_))
    exact F88_j2_ok n a0 a1 a0


-- 94: vedette/vedetteref6.IsDelta
def F94_e : Bool → PV × List Ob := fun r => (.one (lb r), [])
def F94_u10 (n : Nat) : Option Bool :=
    some true
theorem F94_u10_ok (n : Nat) (a0 : Delta) : SimL Try.prog D (n + 8) (n + 4) pc94_c32 [(1, qp 1 0), (3, qj 4)] [(1, some (.cells (Delta.cells a0)))] (F94_u10 n) (QB 0 (QT Try.prog D (n + 8) pc94_c38 (QF false pc94_r 0 F94_e))) := by
    unfold F94_u10
    exact SimL.succ (.seq (.seq (.region [(1, qp 1 0), (3, qj 4)] [(1, some (.cells (Delta.cells a0)))] (by kernel_rfl) (.run 2 [(45, qb false), (44, qj 4)] [] (by kernel_rfl) (.done (by kernel_rfl) (.thenN (.condF (by kernel_rfl) (.exit (.thenX (.loopX (.blockX (.thenN (.seq (.region0 (.run 1 [(2, qb true)] [] (by kernel_rfl) (.done (by kernel_rfl) (.thenN (.ret (.fin (by kernel_rfl))))))))))))))))))))

def F94_u8 (n : Nat) (a0 : Delta) : Option Bool :=
    (F59 n a0.F.a3).bind fun (r9 : Bool) =>
    if !(r9) then
      some false
    else
      if (bitsI .and .u8 (shrI .u8 a0.Mask 4) 1) == 0 then
        if !(Field.eqb a0.F.a3 (Field.mk 0 ByteArray.empty)) then
          some false
        else
          F94_u10 n
      else
        F94_u10 n
theorem F94_u8_ok (n : Nat) (a0 : Delta) : SimL Try.prog D (n + 8) (n + 5) pc94_c32 [(1, qp 1 0), (3, qj 3)] [(1, some (.cells (Delta.cells a0)))] (F94_u8 n a0) (QB 0 (QT Try.prog D (n + 8) pc94_c38 (QF false pc94_r 0 F94_e))) := by
    unfold F94_u8
    refine SimL.succ (.seq (.seq (.region [(1, qp 1 0), (3, qj 3)] [(1, some (.cells (Delta.cells a0)))] (by kernel_rfl) (.run 2 [(45, qb true), (44, qj 3)] [] (by kernel_rfl) (.done (by kernel_rfl) (.thenN (.condT (by kernel_rfl) (.skip (.thenN (.seq (.block (.seq (.region0 (.run 4 [(51, .agg [lj a0.F.a3.N, ls a0.F.a3.Text]), (50, qp 1 10), (49, qp 1 4), (48, qj 3)] [] (by kernel_rfl) (.bind (og := F59 n a0.F.a3) ⟨some 52, POp.call true [[]] 59 [Operand.tmp 51], none, []⟩ (fun r9 => [(52, qb r9)]) (fun r9 => []) (by kernel_rfl) (fun r9 hr => pOp_eff (by kernel_rfl) (by kernel_rfl) (eff_call (ARGS := [.agg [lj a0.F.a3.N, ls a0.F.a3.Text]]) (by kernel_rfl) (args_clean (by kernel_rfl) args_nil) (F59_ok n a0.F.a3 r9 hr) (by kernel_rfl))) (fun r9 => ?_))))))))))))))))
    refine SimI.run 2 [(54, qb (!(r9))), (53, qb (!(r9)))] [] (by kernel_rfl) (.split 54 (!(r9)) (by kernel_rfl) ?_ ?_)
    · exact SimI.run 17 [(71, qb true), (70, .tup []), (69, .tup []), (68, .tup []), (67, .tup []), (66, .tup []), (65, .tup []), (64, .tup []), (63, .tup []), (62, .tup []), (61, .tup []), (60, .tup []), (59, .tup []), (58, .tup []), (57, .tup []), (56, .tup []), (55, .tup [])] [] (by kernel_rfl) (.done (by kernel_rfl) (.thenN (.condT (by kernel_rfl) (.seq (.region0 (.run 1 [(2, qb false)] [] (by kernel_rfl) (.done (by kernel_rfl) (.thenN (.ret (.blockR (.thenR (.loopR (.blockR (.thenR (.fin (by kernel_rfl))))))))))))))))
    · refine SimI.run 9 [(63, qb ((bitsI .and .u8 (shrI .u8 a0.Mask 4) 1) == 0)), (62, qb ((bitsI .and .u8 (shrI .u8 a0.Mask 4) 1) == 0)), (61, .one (li .u8 (bitsI .and .u8 (shrI .u8 a0.Mask 4) 1))), (60, .one (li .u8 (shrI .u8 a0.Mask 4))), (59, .one (li .u64 4)), (58, qj 4), (57, qj 3), (56, .one (li .u8 a0.Mask)), (55, qp 1 1)] [] (by kernel_rfl) (.split 63 ((bitsI .and .u8 (shrI .u8 a0.Mask 4) 1) == 0) (by kernel_rfl) ?_ ?_)
      · refine SimI.run 5 [(68, .agg [lj 0, ls be]), (67, .agg [lj a0.F.a3.N, ls a0.F.a3.Text]), (66, qp 1 10), (65, qp 1 4), (64, qj 3)] [] (by kernel_rfl) (.step ⟨some 69, POp.prim (Prim.bin BinOp.neq 25 false false) [Operand.tmp 67, Operand.tmp 68], some (63, true), []⟩ [(69, qb (!(Field.eqb a0.F.a3 (Field.mk 0 be))))] [] (by kernel_rfl) (pOp_eff (by kernel_rfl) (by kernel_rfl) (eff_prim (by kernel_rfl) (Field_eqn a0.F.a3 (Field.mk 0 be) _ _))) (.run 2 [(71, qb (!(Field.eqb a0.F.a3 (Field.mk 0 be)))), (70, qb (!(Field.eqb a0.F.a3 (Field.mk 0 be))))] [] (by kernel_rfl) (.done (by kernel_rfl) (.thenN (.cond (!(Field.eqb a0.F.a3 (Field.mk 0 be))) (by kernel_rfl) ?_ ?_)))))
        · exact Sim.seq (.region0 (.run 1 [(2, qb false)] [] (by kernel_rfl) (.done (by kernel_rfl) (.thenN (.ret (.blockR (.thenR (.loopR (.blockR (.thenR (.fin (by kernel_rfl))))))))))))
        · refine Sim.skip (.blockN (.thenN (.region0 (.run 3 [(3, qj 4), (47, qj 4), (46, qj 3)] [] (by kernel_rfl) (.done (by kernel_rfl) (.loopN (.pre (ts := [1, 3]) (os := [1]) (ow := []) [(1, qp 1 0), (3, qj 4)] [(1, some (.cells (Delta.cells a0)))] (by kernel_rfl) (by kernel_rfl) (by kernel_rfl) ?_)))))))
          exact F94_u10_ok n a0
      · refine SimI.run 8 [(71, qb false), (70, qb false), (69, .tup []), (68, .tup []), (67, .tup []), (66, .tup []), (65, .tup []), (64, .tup [])] [] (by kernel_rfl) (.done (by kernel_rfl) (.thenN (.condF (by kernel_rfl) (.skip (.blockN (.thenN (.region0 (.run 3 [(3, qj 4), (47, qj 4), (46, qj 3)] [] (by kernel_rfl) (.done (by kernel_rfl) (.loopN (.pre (ts := [1, 3]) (os := [1]) (ow := []) [(1, qp 1 0), (3, qj 4)] [(1, some (.cells (Delta.cells a0)))] (by kernel_rfl) (by kernel_rfl) (by kernel_rfl) ?_)))))))))))
        exact F94_u10_ok n a0

def F94_u6 (n : Nat) (a0 : Delta) : Option Bool :=
    (F59 n a0.F.a2).bind fun (r7 : Bool) =>
    if !(r7) then
      some false
    else
      if (bitsI .and .u8 (shrI .u8 a0.Mask 3) 1) == 0 then
        if !(Field.eqb a0.F.a2 (Field.mk 0 ByteArray.empty)) then
          some false
        else
          F94_u8 n a0
      else
        F94_u8 n a0
theorem F94_u6_ok (n : Nat) (a0 : Delta) : SimL Try.prog D (n + 8) (n + 6) pc94_c32 [(1, qp 1 0), (3, qj 2)] [(1, some (.cells (Delta.cells a0)))] (F94_u6 n a0) (QB 0 (QT Try.prog D (n + 8) pc94_c38 (QF false pc94_r 0 F94_e))) := by
    unfold F94_u6
    refine SimL.succ (.seq (.seq (.region [(1, qp 1 0), (3, qj 2)] [(1, some (.cells (Delta.cells a0)))] (by kernel_rfl) (.run 2 [(45, qb true), (44, qj 2)] [] (by kernel_rfl) (.done (by kernel_rfl) (.thenN (.condT (by kernel_rfl) (.skip (.thenN (.seq (.block (.seq (.region0 (.run 4 [(51, .agg [lj a0.F.a2.N, ls a0.F.a2.Text]), (50, qp 1 8), (49, qp 1 4), (48, qj 2)] [] (by kernel_rfl) (.bind (og := F59 n a0.F.a2) ⟨some 52, POp.call true [[]] 59 [Operand.tmp 51], none, []⟩ (fun r7 => [(52, qb r7)]) (fun r7 => []) (by kernel_rfl) (fun r7 hr => pOp_eff (by kernel_rfl) (by kernel_rfl) (eff_call (ARGS := [.agg [lj a0.F.a2.N, ls a0.F.a2.Text]]) (by kernel_rfl) (args_clean (by kernel_rfl) args_nil) (F59_ok n a0.F.a2 r7 hr) (by kernel_rfl))) (fun r7 => ?_))))))))))))))))
    refine SimI.run 2 [(54, qb (!(r7))), (53, qb (!(r7)))] [] (by kernel_rfl) (.split 54 (!(r7)) (by kernel_rfl) ?_ ?_)
    · exact SimI.run 17 [(71, qb true), (70, .tup []), (69, .tup []), (68, .tup []), (67, .tup []), (66, .tup []), (65, .tup []), (64, .tup []), (63, .tup []), (62, .tup []), (61, .tup []), (60, .tup []), (59, .tup []), (58, .tup []), (57, .tup []), (56, .tup []), (55, .tup [])] [] (by kernel_rfl) (.done (by kernel_rfl) (.thenN (.condT (by kernel_rfl) (.seq (.region0 (.run 1 [(2, qb false)] [] (by kernel_rfl) (.done (by kernel_rfl) (.thenN (.ret (.blockR (.thenR (.loopR (.blockR (.thenR (.fin (by kernel_rfl))))))))))))))))
    · refine SimI.run 9 [(63, qb ((bitsI .and .u8 (shrI .u8 a0.Mask 3) 1) == 0)), (62, qb ((bitsI .and .u8 (shrI .u8 a0.Mask 3) 1) == 0)), (61, .one (li .u8 (bitsI .and .u8 (shrI .u8 a0.Mask 3) 1))), (60, .one (li .u8 (shrI .u8 a0.Mask 3))), (59, .one (li .u64 3)), (58, qj 3), (57, qj 2), (56, .one (li .u8 a0.Mask)), (55, qp 1 1)] [] (by kernel_rfl) (.split 63 ((bitsI .and .u8 (shrI .u8 a0.Mask 3) 1) == 0) (by kernel_rfl) ?_ ?_)
      · refine SimI.run 5 [(68, .agg [lj 0, ls be]), (67, .agg [lj a0.F.a2.N, ls a0.F.a2.Text]), (66, qp 1 8), (65, qp 1 4), (64, qj 2)] [] (by kernel_rfl) (.step ⟨some 69, POp.prim (Prim.bin BinOp.neq 25 false false) [Operand.tmp 67, Operand.tmp 68], some (63, true), []⟩ [(69, qb (!(Field.eqb a0.F.a2 (Field.mk 0 be))))] [] (by kernel_rfl) (pOp_eff (by kernel_rfl) (by kernel_rfl) (eff_prim (by kernel_rfl) (Field_eqn a0.F.a2 (Field.mk 0 be) _ _))) (.run 2 [(71, qb (!(Field.eqb a0.F.a2 (Field.mk 0 be)))), (70, qb (!(Field.eqb a0.F.a2 (Field.mk 0 be))))] [] (by kernel_rfl) (.done (by kernel_rfl) (.thenN (.cond (!(Field.eqb a0.F.a2 (Field.mk 0 be))) (by kernel_rfl) ?_ ?_)))))
        · exact Sim.seq (.region0 (.run 1 [(2, qb false)] [] (by kernel_rfl) (.done (by kernel_rfl) (.thenN (.ret (.blockR (.thenR (.loopR (.blockR (.thenR (.fin (by kernel_rfl))))))))))))
        · refine Sim.skip (.blockN (.thenN (.region0 (.run 3 [(3, qj 3), (47, qj 3), (46, qj 2)] [] (by kernel_rfl) (.done (by kernel_rfl) (.loopN (.pre (ts := [1, 3]) (os := [1]) (ow := []) [(1, qp 1 0), (3, qj 3)] [(1, some (.cells (Delta.cells a0)))] (by kernel_rfl) (by kernel_rfl) (by kernel_rfl) ?_)))))))
          exact F94_u8_ok n a0
      · refine SimI.run 8 [(71, qb false), (70, qb false), (69, .tup []), (68, .tup []), (67, .tup []), (66, .tup []), (65, .tup []), (64, .tup [])] [] (by kernel_rfl) (.done (by kernel_rfl) (.thenN (.condF (by kernel_rfl) (.skip (.blockN (.thenN (.region0 (.run 3 [(3, qj 3), (47, qj 3), (46, qj 2)] [] (by kernel_rfl) (.done (by kernel_rfl) (.loopN (.pre (ts := [1, 3]) (os := [1]) (ow := []) [(1, qp 1 0), (3, qj 3)] [(1, some (.cells (Delta.cells a0)))] (by kernel_rfl) (by kernel_rfl) (by kernel_rfl) ?_)))))))))))
        exact F94_u8_ok n a0

def F94_u4 (n : Nat) (a0 : Delta) : Option Bool :=
    (F59 n a0.F.a1).bind fun (r5 : Bool) =>
    if !(r5) then
      some false
    else
      if (bitsI .and .u8 (shrI .u8 a0.Mask 2) 1) == 0 then
        if !(Field.eqb a0.F.a1 (Field.mk 0 ByteArray.empty)) then
          some false
        else
          F94_u6 n a0
      else
        F94_u6 n a0
theorem F94_u4_ok (n : Nat) (a0 : Delta) : SimL Try.prog D (n + 8) (n + 7) pc94_c32 [(1, qp 1 0), (3, qj 1)] [(1, some (.cells (Delta.cells a0)))] (F94_u4 n a0) (QB 0 (QT Try.prog D (n + 8) pc94_c38 (QF false pc94_r 0 F94_e))) := by
    unfold F94_u4
    refine SimL.succ (.seq (.seq (.region [(1, qp 1 0), (3, qj 1)] [(1, some (.cells (Delta.cells a0)))] (by kernel_rfl) (.run 2 [(45, qb true), (44, qj 1)] [] (by kernel_rfl) (.done (by kernel_rfl) (.thenN (.condT (by kernel_rfl) (.skip (.thenN (.seq (.block (.seq (.region0 (.run 4 [(51, .agg [lj a0.F.a1.N, ls a0.F.a1.Text]), (50, qp 1 6), (49, qp 1 4), (48, qj 1)] [] (by kernel_rfl) (.bind (og := F59 n a0.F.a1) ⟨some 52, POp.call true [[]] 59 [Operand.tmp 51], none, []⟩ (fun r5 => [(52, qb r5)]) (fun r5 => []) (by kernel_rfl) (fun r5 hr => pOp_eff (by kernel_rfl) (by kernel_rfl) (eff_call (ARGS := [.agg [lj a0.F.a1.N, ls a0.F.a1.Text]]) (by kernel_rfl) (args_clean (by kernel_rfl) args_nil) (F59_ok n a0.F.a1 r5 hr) (by kernel_rfl))) (fun r5 => ?_))))))))))))))))
    refine SimI.run 2 [(54, qb (!(r5))), (53, qb (!(r5)))] [] (by kernel_rfl) (.split 54 (!(r5)) (by kernel_rfl) ?_ ?_)
    · exact SimI.run 17 [(71, qb true), (70, .tup []), (69, .tup []), (68, .tup []), (67, .tup []), (66, .tup []), (65, .tup []), (64, .tup []), (63, .tup []), (62, .tup []), (61, .tup []), (60, .tup []), (59, .tup []), (58, .tup []), (57, .tup []), (56, .tup []), (55, .tup [])] [] (by kernel_rfl) (.done (by kernel_rfl) (.thenN (.condT (by kernel_rfl) (.seq (.region0 (.run 1 [(2, qb false)] [] (by kernel_rfl) (.done (by kernel_rfl) (.thenN (.ret (.blockR (.thenR (.loopR (.blockR (.thenR (.fin (by kernel_rfl))))))))))))))))
    · refine SimI.run 9 [(63, qb ((bitsI .and .u8 (shrI .u8 a0.Mask 2) 1) == 0)), (62, qb ((bitsI .and .u8 (shrI .u8 a0.Mask 2) 1) == 0)), (61, .one (li .u8 (bitsI .and .u8 (shrI .u8 a0.Mask 2) 1))), (60, .one (li .u8 (shrI .u8 a0.Mask 2))), (59, .one (li .u64 2)), (58, qj 2), (57, qj 1), (56, .one (li .u8 a0.Mask)), (55, qp 1 1)] [] (by kernel_rfl) (.split 63 ((bitsI .and .u8 (shrI .u8 a0.Mask 2) 1) == 0) (by kernel_rfl) ?_ ?_)
      · refine SimI.run 5 [(68, .agg [lj 0, ls be]), (67, .agg [lj a0.F.a1.N, ls a0.F.a1.Text]), (66, qp 1 6), (65, qp 1 4), (64, qj 1)] [] (by kernel_rfl) (.step ⟨some 69, POp.prim (Prim.bin BinOp.neq 25 false false) [Operand.tmp 67, Operand.tmp 68], some (63, true), []⟩ [(69, qb (!(Field.eqb a0.F.a1 (Field.mk 0 be))))] [] (by kernel_rfl) (pOp_eff (by kernel_rfl) (by kernel_rfl) (eff_prim (by kernel_rfl) (Field_eqn a0.F.a1 (Field.mk 0 be) _ _))) (.run 2 [(71, qb (!(Field.eqb a0.F.a1 (Field.mk 0 be)))), (70, qb (!(Field.eqb a0.F.a1 (Field.mk 0 be))))] [] (by kernel_rfl) (.done (by kernel_rfl) (.thenN (.cond (!(Field.eqb a0.F.a1 (Field.mk 0 be))) (by kernel_rfl) ?_ ?_)))))
        · exact Sim.seq (.region0 (.run 1 [(2, qb false)] [] (by kernel_rfl) (.done (by kernel_rfl) (.thenN (.ret (.blockR (.thenR (.loopR (.blockR (.thenR (.fin (by kernel_rfl))))))))))))
        · refine Sim.skip (.blockN (.thenN (.region0 (.run 3 [(3, qj 2), (47, qj 2), (46, qj 1)] [] (by kernel_rfl) (.done (by kernel_rfl) (.loopN (.pre (ts := [1, 3]) (os := [1]) (ow := []) [(1, qp 1 0), (3, qj 2)] [(1, some (.cells (Delta.cells a0)))] (by kernel_rfl) (by kernel_rfl) (by kernel_rfl) ?_)))))))
          exact F94_u6_ok n a0
      · refine SimI.run 8 [(71, qb false), (70, qb false), (69, .tup []), (68, .tup []), (67, .tup []), (66, .tup []), (65, .tup []), (64, .tup [])] [] (by kernel_rfl) (.done (by kernel_rfl) (.thenN (.condF (by kernel_rfl) (.skip (.blockN (.thenN (.region0 (.run 3 [(3, qj 2), (47, qj 2), (46, qj 1)] [] (by kernel_rfl) (.done (by kernel_rfl) (.loopN (.pre (ts := [1, 3]) (os := [1]) (ow := []) [(1, qp 1 0), (3, qj 2)] [(1, some (.cells (Delta.cells a0)))] (by kernel_rfl) (by kernel_rfl) (by kernel_rfl) ?_)))))))))))
        exact F94_u6_ok n a0

def F94_j2 (n : Nat) (a0 : Delta) : Option Bool :=
    (F59 n a0.F.a0).bind fun (r3 : Bool) =>
    if !(r3) then
      some false
    else
      if (bitsI .and .u8 (shrI .u8 a0.Mask 1) 1) == 0 then
        if !(Field.eqb a0.F.a0 (Field.mk 0 ByteArray.empty)) then
          some false
        else
          F94_u4 n a0
      else
        F94_u4 n a0
theorem F94_j2_ok (n : Nat) (a0 : Delta) : Sim Try.prog D (n + 8) pc94_c39 [(1, qp 1 0)] [(1, some (.cells (Delta.cells a0)))] (F94_j2 n a0) (QF false pc94_r 0 F94_e) := by
    unfold F94_j2
    refine Sim.seq (.seq (.region [(1, qp 1 0)] [(1, some (.cells (Delta.cells a0)))] (by kernel_rfl) (.run 1 [(3, qj 0)] [] (by kernel_rfl) (.done (by kernel_rfl) (.thenN (.block (.loop (.succ (.seq (.seq (.region [(1, qp 1 0), (3, qj 0)] [(1, some (.cells (Delta.cells a0)))] (by kernel_rfl) (.run 2 [(45, qb true), (44, qj 0)] [] (by kernel_rfl) (.done (by kernel_rfl) (.thenN (.condT (by kernel_rfl) (.skip (.thenN (.seq (.block (.seq (.region0 (.run 4 [(51, .agg [lj a0.F.a0.N, ls a0.F.a0.Text]), (50, qp 1 4), (49, qp 1 4), (48, qj 0)] [] (by kernel_rfl) (.bind (og := F59 n a0.F.a0) ⟨some 52, POp.call true [[]] 59 [Operand.tmp 51], none, []⟩ (fun r3 => [(52, qb r3)]) (fun r3 => []) (by kernel_rfl) (fun r3 hr => pOp_eff (by kernel_rfl) (by kernel_rfl) (eff_call (ARGS := [.agg [lj a0.F.a0.N, ls a0.F.a0.Text]]) (by kernel_rfl) (args_clean (by kernel_rfl) args_nil) (F59_ok n a0.F.a0 r3 hr) (by kernel_rfl))) (fun r3 => ?_))))))))))))))))))))))))
    refine SimI.run 2 [(54, qb (!(r3))), (53, qb (!(r3)))] [] (by kernel_rfl) (.split 54 (!(r3)) (by kernel_rfl) ?_ ?_)
    · exact SimI.run 17 [(71, qb true), (70, .tup []), (69, .tup []), (68, .tup []), (67, .tup []), (66, .tup []), (65, .tup []), (64, .tup []), (63, .tup []), (62, .tup []), (61, .tup []), (60, .tup []), (59, .tup []), (58, .tup []), (57, .tup []), (56, .tup []), (55, .tup [])] [] (by kernel_rfl) (.done (by kernel_rfl) (.thenN (.condT (by kernel_rfl) (.seq (.region0 (.run 1 [(2, qb false)] [] (by kernel_rfl) (.done (by kernel_rfl) (.thenN (.ret (.blockR (.thenR (.loopR (.blockR (.thenR (.fin (by kernel_rfl))))))))))))))))
    · refine SimI.run 9 [(63, qb ((bitsI .and .u8 (shrI .u8 a0.Mask 1) 1) == 0)), (62, qb ((bitsI .and .u8 (shrI .u8 a0.Mask 1) 1) == 0)), (61, .one (li .u8 (bitsI .and .u8 (shrI .u8 a0.Mask 1) 1))), (60, .one (li .u8 (shrI .u8 a0.Mask 1))), (59, .one (li .u64 1)), (58, qj 1), (57, qj 0), (56, .one (li .u8 a0.Mask)), (55, qp 1 1)] [] (by kernel_rfl) (.split 63 ((bitsI .and .u8 (shrI .u8 a0.Mask 1) 1) == 0) (by kernel_rfl) ?_ ?_)
      · refine SimI.run 5 [(68, .agg [lj 0, ls be]), (67, .agg [lj a0.F.a0.N, ls a0.F.a0.Text]), (66, qp 1 4), (65, qp 1 4), (64, qj 0)] [] (by kernel_rfl) (.step ⟨some 69, POp.prim (Prim.bin BinOp.neq 25 false false) [Operand.tmp 67, Operand.tmp 68], some (63, true), []⟩ [(69, qb (!(Field.eqb a0.F.a0 (Field.mk 0 be))))] [] (by kernel_rfl) (pOp_eff (by kernel_rfl) (by kernel_rfl) (eff_prim (by kernel_rfl) (Field_eqn a0.F.a0 (Field.mk 0 be) _ _))) (.run 2 [(71, qb (!(Field.eqb a0.F.a0 (Field.mk 0 be)))), (70, qb (!(Field.eqb a0.F.a0 (Field.mk 0 be))))] [] (by kernel_rfl) (.done (by kernel_rfl) (.thenN (.cond (!(Field.eqb a0.F.a0 (Field.mk 0 be))) (by kernel_rfl) ?_ ?_)))))
        · exact Sim.seq (.region0 (.run 1 [(2, qb false)] [] (by kernel_rfl) (.done (by kernel_rfl) (.thenN (.ret (.blockR (.thenR (.loopR (.blockR (.thenR (.fin (by kernel_rfl))))))))))))
        · refine Sim.skip (.blockN (.thenN (.region0 (.run 3 [(3, qj 1), (47, qj 1), (46, qj 0)] [] (by kernel_rfl) (.done (by kernel_rfl) (.loopN (.pre (ts := [1, 3]) (os := [1]) (ow := []) [(1, qp 1 0), (3, qj 1)] [(1, some (.cells (Delta.cells a0)))] (by kernel_rfl) (by kernel_rfl) (by kernel_rfl) ?_)))))))
          exact F94_u4_ok n a0
      · refine SimI.run 8 [(71, qb false), (70, qb false), (69, .tup []), (68, .tup []), (67, .tup []), (66, .tup []), (65, .tup []), (64, .tup [])] [] (by kernel_rfl) (.done (by kernel_rfl) (.thenN (.condF (by kernel_rfl) (.skip (.blockN (.thenN (.region0 (.run 3 [(3, qj 1), (47, qj 1), (46, qj 0)] [] (by kernel_rfl) (.done (by kernel_rfl) (.loopN (.pre (ts := [1, 3]) (os := [1]) (ow := []) [(1, qp 1 0), (3, qj 1)] [(1, some (.cells (Delta.cells a0)))] (by kernel_rfl) (by kernel_rfl) (by kernel_rfl) ?_)))))))))))
        exact F94_u4_ok n a0

def F94 (n : Nat) (a0 : Delta) : Option Bool :=
  if decide (a0.ID < 0) then
    some false
  else
    if decide ((1000000 : Int) < a0.ID) then
      some false
    else
      if decide (a0.Mask < 1) then
        some false
      else
        if decide ((31 : Int) < a0.Mask) then
          some false
        else
          if (bitsI .and .u8 a0.Mask 1) != 0 then
            (F58 n a0.At).bind fun (r1 : Bool) =>
            if !(r1) then
              some false
            else
              if (bitsI .and .u8 a0.Mask 1) == 0 then
                if !(Point.eqb a0.At (Point.mk 0 0)) then
                  some false
                else
                  F94_j2 n a0
              else
                F94_j2 n a0
          else
            if (bitsI .and .u8 a0.Mask 1) == 0 then
              if !(Point.eqb a0.At (Point.mk 0 0)) then
                some false
              else
                F94_j2 n a0
            else
              F94_j2 n a0
theorem F94_ok (n : Nat) (a0 : Delta) : ∀ r, F94 n a0 = some r → D 94 [.agg (Delta.cells a0)] [] = some (F94_e r) := by
  refine fn_to (D := D) (n := n + 8) (nt := 72) (rs := pc94_r) (c := pc94_c42) (L := [(0, .agg (Delta.cells a0))]) (M := []) (k := 0) rfl rfl rfl rfl rfl rfl rfl ?_
  unfold F94
  refine Sim.seq (.region0 (.run 2 [(2, qb false), (1, qp 1 0)] [(1, some (.cells (Delta.cells a0)))] (by kernel_rfl) (.done (by kernel_rfl) (.thenN (.seq (.seq (.region0 (.run 4 [(7, qb (decide (a0.ID < 0))), (6, qb (decide (a0.ID < 0))), (5, qj a0.ID), (4, qp 1 0)] [] (by kernel_rfl) (.split 7 (decide (a0.ID < 0)) (by kernel_rfl) ?_ ?_)))))))))
  · exact SimI.run 14 [(21, qb true), (20, .tup []), (19, .tup []), (18, .tup []), (17, qb true), (16, qb true), (15, .tup []), (14, .tup []), (13, .tup []), (12, qb true), (11, qb true), (10, .tup []), (9, .tup []), (8, .tup [])] [] (by kernel_rfl) (.done (by kernel_rfl) (.thenN (.condT (by kernel_rfl) (.seq (.region0 (.run 1 [(2, qb false)] [] (by kernel_rfl) (.done (by kernel_rfl) (.thenN (.ret (.thenR (.fin (by kernel_rfl))))))))))))
  · refine SimI.run 5 [(12, qb (decide ((1000000 : Int) < a0.ID))), (11, qb (decide ((1000000 : Int) < a0.ID))), (10, qb (decide ((1000000 : Int) < a0.ID))), (9, qj a0.ID), (8, qp 1 0)] [] (by kernel_rfl) (.split 12 (decide ((1000000 : Int) < a0.ID)) (by kernel_rfl) ?_ ?_)
    · exact SimI.run 9 [(21, qb true), (20, .tup []), (19, .tup []), (18, .tup []), (17, qb true), (16, qb true), (15, .tup []), (14, .tup []), (13, .tup [])] [] (by kernel_rfl) (.done (by kernel_rfl) (.thenN (.condT (by kernel_rfl) (.seq (.region0 (.run 1 [(2, qb false)] [] (by kernel_rfl) (.done (by kernel_rfl) (.thenN (.ret (.thenR (.fin (by kernel_rfl))))))))))))
    · refine SimI.run 5 [(17, qb (decide (a0.Mask < 1))), (16, qb (decide (a0.Mask < 1))), (15, qb (decide (a0.Mask < 1))), (14, .one (li .u8 a0.Mask)), (13, qp 1 1)] [] (by kernel_rfl) (.split 17 (decide (a0.Mask < 1)) (by kernel_rfl) ?_ ?_)
      · exact SimI.run 4 [(21, qb true), (20, .tup []), (19, .tup []), (18, .tup [])] [] (by kernel_rfl) (.done (by kernel_rfl) (.thenN (.condT (by kernel_rfl) (.seq (.region0 (.run 1 [(2, qb false)] [] (by kernel_rfl) (.done (by kernel_rfl) (.thenN (.ret (.thenR (.fin (by kernel_rfl))))))))))))
      · refine SimI.run 4 [(21, qb (decide ((31 : Int) < a0.Mask))), (20, qb (decide ((31 : Int) < a0.Mask))), (19, .one (li .u8 a0.Mask)), (18, qp 1 1)] [] (by kernel_rfl) (.done (by kernel_rfl) (.thenN (.cond (decide ((31 : Int) < a0.Mask)) (by kernel_rfl) ?_ ?_)))
        · exact Sim.seq (.region0 (.run 1 [(2, qb false)] [] (by kernel_rfl) (.done (by kernel_rfl) (.thenN (.ret (.thenR (.fin (by kernel_rfl))))))))
        · refine Sim.skip (.thenN (.seq (.seq (.region0 (.run 5 [(26, qb ((bitsI .and .u8 a0.Mask 1) != 0)), (25, qb ((bitsI .and .u8 a0.Mask 1) != 0)), (24, .one (li .u8 (bitsI .and .u8 a0.Mask 1))), (23, .one (li .u8 a0.Mask)), (22, qp 1 1)] [] (by kernel_rfl) (.split 26 ((bitsI .and .u8 a0.Mask 1) != 0) (by kernel_rfl) ?_ ?_))))))
          · refine SimI.run 2 [(28, .agg [lj a0.At.X, lj a0.At.Y]), (27, qp 1 2)] [] (by kernel_rfl) (.bind (og := F58 n a0.At) ⟨some 29, POp.call true [[]] 58 [Operand.tmp 28], some (26, true), []⟩ (fun r1 => [(29, qb r1)]) (fun r1 => []) (by kernel_rfl) (fun r1 hr => pOp_eff (by kernel_rfl) (by kernel_rfl) (eff_call (ARGS := [.agg [lj a0.At.X, lj a0.At.Y]]) (by kernel_rfl) (args_clean (by kernel_rfl) args_nil) (F58_ok n a0.At r1 hr) (by kernel_rfl))) (fun r1 => ?_))
            refine SimI.run 3 [(32, qb (!(r1))), (31, qb (!(r1))), (30, qb (!(r1)))] [] (by kernel_rfl) (.split 32 (!(r1)) (by kernel_rfl) ?_ ?_)
            · exact SimI.run 11 [(43, qb true), (42, .tup []), (41, .tup []), (40, .tup []), (39, .tup []), (38, .tup []), (37, .tup []), (36, .tup []), (35, .tup []), (34, .tup []), (33, .tup [])] [] (by kernel_rfl) (.done (by kernel_rfl) (.thenN (.condT (by kernel_rfl) (.seq (.region0 (.run 1 [(2, qb false)] [] (by kernel_rfl) (.done (by kernel_rfl) (.thenN (.ret (.thenR (.fin (by kernel_rfl))))))))))))
            · refine SimI.run 5 [(37, qb ((bitsI .and .u8 a0.Mask 1) == 0)), (36, qb ((bitsI .and .u8 a0.Mask 1) == 0)), (35, .one (li .u8 (bitsI .and .u8 a0.Mask 1))), (34, .one (li .u8 a0.Mask)), (33, qp 1 1)] [] (by kernel_rfl) (.split 37 ((bitsI .and .u8 a0.Mask 1) == 0) (by kernel_rfl) ?_ ?_)
              · refine SimI.run 3 [(40, .agg [lj 0, lj 0]), (39, .agg [lj a0.At.X, lj a0.At.Y]), (38, qp 1 2)] [] (by kernel_rfl) (.step ⟨some 41, POp.prim (Prim.bin BinOp.neq 23 false false) [Operand.tmp 39, Operand.tmp 40], some (37, true), []⟩ [(41, qb (!(Point.eqb a0.At (Point.mk 0 0))))] [] (by kernel_rfl) (pOp_eff (by kernel_rfl) (by kernel_rfl) (eff_prim (by kernel_rfl) (Point_eqn a0.At (Point.mk 0 0) _ _))) (.run 2 [(43, qb (!(Point.eqb a0.At (Point.mk 0 0)))), (42, qb (!(Point.eqb a0.At (Point.mk 0 0))))] [] (by kernel_rfl) (.done (by kernel_rfl) (.thenN (.cond (!(Point.eqb a0.At (Point.mk 0 0))) (by kernel_rfl) ?_ ?_)))))
                · exact Sim.seq (.region0 (.run 1 [(2, qb false)] [] (by kernel_rfl) (.done (by kernel_rfl) (.thenN (.ret (.thenR (.fin (by kernel_rfl))))))))
                · refine Sim.skip (.thenN (.pre (ts := [1]) (os := [1]) (ow := []) [(1, qp 1 0)] [(1, some (.cells (Delta.cells a0)))] (by kernel_rfl) (by kernel_rfl) (by kernel_rfl) ?_))
                  exact F94_j2_ok n a0
              · refine SimI.run 6 [(43, qb false), (42, qb false), (41, .tup []), (40, .tup []), (39, .tup []), (38, .tup [])] [] (by kernel_rfl) (.done (by kernel_rfl) (.thenN (.condF (by kernel_rfl) (.skip (.thenN (.pre (ts := [1]) (os := [1]) (ow := []) [(1, qp 1 0)] [(1, some (.cells (Delta.cells a0)))] (by kernel_rfl) (by kernel_rfl) (by kernel_rfl) ?_))))))
                exact F94_j2_ok n a0
          · refine SimI.run 11 [(37, qb ((bitsI .and .u8 a0.Mask 1) == 0)), (36, qb ((bitsI .and .u8 a0.Mask 1) == 0)), (35, .one (li .u8 (bitsI .and .u8 a0.Mask 1))), (34, .one (li .u8 a0.Mask)), (33, qp 1 1), (32, qb false), (31, qb false), (30, .tup []), (29, .tup []), (28, .tup []), (27, .tup [])] [] (by kernel_rfl) (.split 37 ((bitsI .and .u8 a0.Mask 1) == 0) (by kernel_rfl) ?_ ?_)
            · refine SimI.run 3 [(40, .agg [lj 0, lj 0]), (39, .agg [lj a0.At.X, lj a0.At.Y]), (38, qp 1 2)] [] (by kernel_rfl) (.step ⟨some 41, POp.prim (Prim.bin BinOp.neq 23 false false) [Operand.tmp 39, Operand.tmp 40], some (37, true), []⟩ [(41, qb (!(Point.eqb a0.At (Point.mk 0 0))))] [] (by kernel_rfl) (pOp_eff (by kernel_rfl) (by kernel_rfl) (eff_prim (by kernel_rfl) (Point_eqn a0.At (Point.mk 0 0) _ _))) (.run 2 [(43, qb (!(Point.eqb a0.At (Point.mk 0 0)))), (42, qb (!(Point.eqb a0.At (Point.mk 0 0))))] [] (by kernel_rfl) (.done (by kernel_rfl) (.thenN (.cond (!(Point.eqb a0.At (Point.mk 0 0))) (by kernel_rfl) ?_ ?_)))))
              · exact Sim.seq (.region0 (.run 1 [(2, qb false)] [] (by kernel_rfl) (.done (by kernel_rfl) (.thenN (.ret (.thenR (.fin (by kernel_rfl))))))))
              · refine Sim.skip (.thenN (.pre (ts := [1]) (os := [1]) (ow := []) [(1, qp 1 0)] [(1, some (.cells (Delta.cells a0)))] (by kernel_rfl) (by kernel_rfl) (by kernel_rfl) ?_))
                exact F94_j2_ok n a0
            · refine SimI.run 6 [(43, qb false), (42, qb false), (41, .tup []), (40, .tup []), (39, .tup []), (38, .tup [])] [] (by kernel_rfl) (.done (by kernel_rfl) (.thenN (.condF (by kernel_rfl) (.skip (.thenN (.pre (ts := [1]) (os := [1]) (ow := []) [(1, qp 1 0)] [(1, some (.cells (Delta.cells a0)))] (by kernel_rfl) (by kernel_rfl) (by kernel_rfl) ?_))))))
              exact F94_j2_ok n a0


-- 107: vedette/vedetteref1.Texts
def F107_e : (ByteArray × Int × Int) → PV × List Ob := fun r => (.tup [.one (ls r.1), .one (li .i64 r.2.1), .one (li .i64 r.2.2)], [])
def F107 (n : Nat) (a0 : ByteArray) (a1 : Int) : Option (ByteArray × Int × Int) :=
  (F74 n a0).bind fun (r1 : (Int × Int × Int)) =>
  if r1.2.2 != 0 then
    some (ByteArray.empty, 0, r1.2.2)
  else
    if decide (IntKind.wrap .u64 (imax 0 a1) < r1.1) then
      some (ByteArray.empty, 0, 13)
    else
      if decide (IntKind.wrap .u64 (IntKind.wrap .i64 ((a0.size : Int) - r1.2.1)) < r1.1) then
        some (ByteArray.empty, 0, 10)
      else
        if 0 ≤ (r1.2.1 : Int) ∧ (r1.2.1 : Int) ≤ IntKind.wrap .i64 (r1.2.1 + IntKind.wrap .i64 r1.1) ∧ IntKind.wrap .i64 (r1.2.1 + IntKind.wrap .i64 r1.1) ≤ (a0.size : Int) then
          some (a0.extract r1.2.1.toNat (IntKind.wrap .i64 (r1.2.1 + IntKind.wrap .i64 r1.1)).toNat, IntKind.wrap .i64 (r1.2.1 + IntKind.wrap .i64 r1.1), 0)
        else none
theorem F107_ok (n : Nat) (a0 : ByteArray) (a1 : Int) : ∀ r, F107 n a0 a1 = some r → D 107 [.one (ls a0), .one (li .i64 a1)] [] = some (F107_e r) := by
  refine fn_to (D := D) (n := n + 8) (nt := 45) (rs := pc107_r) (c := pc107_c28) (L := [(0, qs a0), (1, qj a1)]) (M := []) (k := 0) rfl rfl rfl rfl rfl rfl rfl ?_
  unfold F107
  refine Sim.seq (.region0 (.run 3 [(6, qj 0), (5, qj 0), (4, qs be)] [] (by kernel_rfl) (.done (by kernel_rfl) (.thenN (.seq (.region0 (.run 1 [(11, qs a0)] [] (by kernel_rfl) (.bind (og := F74 n a0) ⟨some 12, POp.call true [[]] 74 [Operand.tmp 11], none, []⟩ (fun r1 => [(12, .tup [.one (li .u64 r1.1), qj r1.2.1, qj r1.2.2])]) (fun r1 => []) (by kernel_rfl) (fun r1 hr => pOp_eff (by kernel_rfl) (by kernel_rfl) (eff_call (ARGS := [qs a0]) (by kernel_rfl) (args_clean (by kernel_rfl) args_nil) (F74_ok n a0 r1 hr) (by kernel_rfl))) (fun r1 => ?_)))))))))
  refine SimI.run 7 [(9, qj r1.2.2), (8, qj r1.2.1), (7, .one (li .u64 r1.1)), (15, qj r1.2.2), (14, qj r1.2.1), (13, .one (li .u64 r1.1)), (10, .tup [.one (li .u64 r1.1), qj r1.2.1, qj r1.2.2])] [] (by kernel_rfl) (.done (by kernel_rfl) (.thenN (.seq (.block (.seq (.region0 (.run 3 [(16, qb (r1.2.2 != 0)), (18, qb (r1.2.2 != 0)), (17, qj r1.2.2)] [] (by kernel_rfl) (.done (by kernel_rfl) (.thenN (.cond (r1.2.2 != 0) (by kernel_rfl) ?_ ?_))))))))))
  · exact Sim.seq (.region0 (.run 4 [(6, qj r1.2.2), (5, qj 0), (4, qs be), (19, qj r1.2.2)] [] (by kernel_rfl) (.done (by kernel_rfl) (.thenN (.ret (.blockR (.thenR (.fin (by kernel_rfl)))))))))
  · refine Sim.seq (.region0 (.run 6 [(20, qb (decide (IntKind.wrap .u64 (imax 0 a1) < r1.1))), (25, qb (decide (IntKind.wrap .u64 (imax 0 a1) < r1.1))), (24, .one (li .u64 (IntKind.wrap .u64 (imax 0 a1)))), (23, qj (imax 0 a1)), (22, qj a1), (21, .one (li .u64 r1.1))] [] (by kernel_rfl) (.done (by kernel_rfl) (.thenN (.cond (decide (IntKind.wrap .u64 (imax 0 a1) < r1.1)) (by kernel_rfl) ?_ ?_)))))
    · exact Sim.seq (.region0 (.run 3 [(6, qj 13), (5, qj 0), (4, qs be)] [] (by kernel_rfl) (.done (by kernel_rfl) (.thenN (.ret (.blockR (.thenR (.fin (by kernel_rfl)))))))))
    · refine Sim.seq (.region0 (.run 8 [(26, qb (decide (IntKind.wrap .u64 (IntKind.wrap .i64 ((a0.size : Int) - r1.2.1)) < r1.1))), (33, qb (decide (IntKind.wrap .u64 (IntKind.wrap .i64 ((a0.size : Int) - r1.2.1)) < r1.1))), (32, .one (li .u64 (IntKind.wrap .u64 (IntKind.wrap .i64 ((a0.size : Int) - r1.2.1))))), (31, qj (IntKind.wrap .i64 ((a0.size : Int) - r1.2.1))), (30, qj r1.2.1), (29, qj (a0.size : Int)), (28, qs a0), (27, .one (li .u64 r1.1))] [] (by kernel_rfl) (.done (by kernel_rfl) (.thenN (.cond (decide (IntKind.wrap .u64 (IntKind.wrap .i64 ((a0.size : Int) - r1.2.1)) < r1.1)) (by kernel_rfl) ?_ ?_)))))
      · exact Sim.seq (.region0 (.run 3 [(6, qj 10), (5, qj 0), (4, qs be)] [] (by kernel_rfl) (.done (by kernel_rfl) (.thenN (.ret (.blockR (.thenR (.fin (by kernel_rfl)))))))))
      · exact Sim.skip (.blockN (.thenN (.seq (.region0 (.run 6 [(39, qj (IntKind.wrap .i64 (r1.2.1 + IntKind.wrap .i64 r1.1))), (38, qj (IntKind.wrap .i64 r1.1)), (37, .one (li .u64 r1.1)), (36, qj r1.2.1), (35, qj r1.2.1), (34, qs a0)] [] (by kernel_rfl) (.guard (c := 0 ≤ (r1.2.1 : Int) ∧ (r1.2.1 : Int) ≤ IntKind.wrap .i64 (r1.2.1 + IntKind.wrap .i64 r1.1) ∧ IntKind.wrap .i64 (r1.2.1 + IntKind.wrap .i64 r1.1) ≤ (a0.size : Int)) ⟨some 40, POp.prim (Prim.slice 9 true true) [Operand.tmp 34, Operand.tmp 35, Operand.tmp 39], none, []⟩ [(40, qs (a0.extract r1.2.1.toNat (IntKind.wrap .i64 (r1.2.1 + IntKind.wrap .i64 r1.1)).toNat))] [] (by kernel_rfl) (fun hc => pOp_eff (by kernel_rfl) (by kernel_rfl) (eff_prim (by kernel_rfl) (pr_cutS (s := a0) (k := .i64) (l := .i64) (a := r1.2.1) (b := IntKind.wrap .i64 (r1.2.1 + IntKind.wrap .i64 r1.1)) Try.underlying9 hc))) (.run 7 [(6, qj 0), (5, qj (IntKind.wrap .i64 (r1.2.1 + IntKind.wrap .i64 r1.1))), (4, qs (a0.extract r1.2.1.toNat (IntKind.wrap .i64 (r1.2.1 + IntKind.wrap .i64 r1.1)).toNat)), (44, qj (IntKind.wrap .i64 (r1.2.1 + IntKind.wrap .i64 r1.1))), (43, qj (IntKind.wrap .i64 r1.1)), (42, .one (li .u64 r1.1)), (41, qj r1.2.1)] [] (by kernel_rfl) (.done (by kernel_rfl) (.thenN (.ret (.fin (by kernel_rfl))))))))))))


-- 119: vedette/vedetteref1.Zag
def F119_e : Int → PV × List Ob := fun r => (.one (li .i64 r), [])
def F119 (n : Nat) (a0 : Int) : Option Int :=
  some (bitsI .xor .i64 (IntKind.wrap .i64 (shrI .u64 a0 1)) (IntKind.wrap .i64 (0 - (IntKind.wrap .i64 (bitsI .and .u64 a0 1)))))
theorem F119_ok (n : Nat) (a0 : Int) : ∀ r, F119 n a0 = some r → D 119 [.one (li .u64 a0)] [] = some (F119_e r) := by
  refine fn_to (D := D) (n := n + 8) (nt := 11) (rs := pc119_r) (c := pc119_c5) (L := [(0, .one (li .u64 a0))]) (M := []) (k := 0) rfl rfl rfl rfl rfl rfl rfl ?_
  unfold F119
  exact Sim.seq (.region0 (.run 1 [(2, qj 0)] [] (by kernel_rfl) (.done (by kernel_rfl) (.thenN (.seq (.region0 (.run 9 [(2, qj (bitsI .xor .i64 (IntKind.wrap .i64 (shrI .u64 a0 1)) (IntKind.wrap .i64 (0 - (IntKind.wrap .i64 (bitsI .and .u64 a0 1)))))), (10, qj (bitsI .xor .i64 (IntKind.wrap .i64 (shrI .u64 a0 1)) (IntKind.wrap .i64 (0 - (IntKind.wrap .i64 (bitsI .and .u64 a0 1)))))), (9, qj (IntKind.wrap .i64 (0 - (IntKind.wrap .i64 (bitsI .and .u64 a0 1))))), (8, qj (IntKind.wrap .i64 (bitsI .and .u64 a0 1))), (7, .one (li .u64 (bitsI .and .u64 a0 1))), (6, .one (li .u64 a0)), (5, qj (IntKind.wrap .i64 (shrI .u64 a0 1))), (4, .one (li .u64 (shrI .u64 a0 1))), (3, .one (li .u64 a0))] [] (by kernel_rfl) (.done (by kernel_rfl) (.thenN (.ret (.fin (by kernel_rfl))))))))))))


-- 108: vedette/vedetteref1.Ints
def F108_e : (Int × Int × Int) → PV × List Ob := fun r => (.tup [.one (li .i64 r.1), .one (li .i64 r.2.1), .one (li .i64 r.2.2)], [])
def F108 (n : Nat) (a0 : ByteArray) : Option (Int × Int × Int) :=
  (F74 n a0).bind fun (r1 : (Int × Int × Int)) =>
  (F119 n r1.1).bind fun (r2 : Int) =>
  some (r2, r1.2.1, r1.2.2)
theorem F108_ok (n : Nat) (a0 : ByteArray) : ∀ r, F108 n a0 = some r → D 108 [.one (ls a0)] [] = some (F108_e r) := by
  refine fn_to (D := D) (n := n + 8) (nt := 18) (rs := pc108_r) (c := pc108_c7) (L := [(0, qs a0)]) (M := []) (k := 0) rfl rfl rfl rfl rfl rfl rfl ?_
  unfold F108
  refine Sim.seq (.region0 (.run 3 [(4, qj 0), (3, qj 0), (2, qj 0)] [] (by kernel_rfl) (.done (by kernel_rfl) (.thenN (.seq (.region0 (.run 1 [(9, qs a0)] [] (by kernel_rfl) (.bind (og := F74 n a0) ⟨some 10, POp.call true [[]] 74 [Operand.tmp 9], none, []⟩ (fun r1 => [(10, .tup [.one (li .u64 r1.1), qj r1.2.1, qj r1.2.2])]) (fun r1 => []) (by kernel_rfl) (fun r1 hr => pOp_eff (by kernel_rfl) (by kernel_rfl) (eff_call (ARGS := [qs a0]) (by kernel_rfl) (args_clean (by kernel_rfl) args_nil) (F74_ok n a0 r1 hr) (by kernel_rfl))) (fun r1 => ?_)))))))))
  refine SimI.run 7 [(7, qj r1.2.2), (6, qj r1.2.1), (5, .one (li .u64 r1.1)), (13, qj r1.2.2), (12, qj r1.2.1), (11, .one (li .u64 r1.1)), (8, .tup [.one (li .u64 r1.1), qj r1.2.1, qj r1.2.2])] [] (by kernel_rfl) (.done (by kernel_rfl) (.thenN (.seq (.region0 (.run 1 [(14, .one (li .u64 r1.1))] [] (by kernel_rfl) (.bind (og := F119 n r1.1) ⟨some 15, POp.call true [[]] 119 [Operand.tmp 14], none, []⟩ (fun r2 => [(15, qj r2)]) (fun r2 => []) (by kernel_rfl) (fun r2 hr => pOp_eff (by kernel_rfl) (by kernel_rfl) (eff_call (ARGS := [.one (li .u64 r1.1)]) (by kernel_rfl) (args_clean (by kernel_rfl) args_nil) (F119_ok n r1.1 r2 hr) (by kernel_rfl))) (fun r2 => ?_)))))))
  exact SimI.run 5 [(4, qj r1.2.2), (3, qj r1.2.1), (2, qj r2), (17, qj r1.2.2), (16, qj r1.2.1)] [] (by kernel_rfl) (.done (by kernel_rfl) (.thenN (.ret (.fin (by kernel_rfl)))))


end Go.Proofs.Ytobeamaaifgllaa
