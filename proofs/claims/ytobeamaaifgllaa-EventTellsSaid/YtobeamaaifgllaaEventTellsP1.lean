/-
  Functions of the program as functions of Lean. No condition.
-/
import Derived.Test.YtobeamaaifgllaaEventTellsP0
namespace Go.Proofs.Ytobeamaaifgllaa
open Go Go.Rx
set_option maxRecDepth 100000
set_option linter.unusedVariables false
set_option linter.unusedSimpArgs false
set_option linter.unnecessarySimpa false
-- 47: vedette/vedetteref15.Bytes
def F47_e : (ByteArray × Int) → PV × List Ob := fun r => (.tup [.one (ls r.1), .one (li .i64 r.2)], [])
def F47_l14 (n : Nat) (a0 : (List Event)) : Nat → ByteArray → Int → Option (ByteArray × Int)
  | 0, _, _ => none
  | m + 1, s12, i13 =>
    if decide (i13 < ((a0).length : Int)) then
      (ix a0 i13).bind fun (x15 : Event) =>
      (F60 n (IntKind.wrap .u64 x15.Kind)).bind fun (r16 : ByteArray) =>
      if s12.size + r16.size ≤ 9223372036854775807 then
        (ix a0 i13).bind fun (x17 : Event) =>
        if x17.Kind == 1 then
          (ix a0 i13).bind fun (x18 : Event) =>
          (F20 n x18.Thing).bind fun (r19 : Delta) =>
          (F19 n r19).bind fun (r20 : ByteArray) =>
          if (s12 ++ r16).size + r20.size ≤ 9223372036854775807 then
            (F47_l14 n a0 m) ((s12 ++ r16) ++ r20) (IntKind.wrap .i64 (i13 + 1))
          else none
        else
          if x17.Kind == 2 then
            (ix a0 i13).bind fun (x21 : Event) =>
            (F19 n x21.Delta).bind fun (r22 : ByteArray) =>
            if (s12 ++ r16).size + r22.size ≤ 9223372036854775807 then
              (F47_l14 n a0 m) ((s12 ++ r16) ++ r22) (IntKind.wrap .i64 (i13 + 1))
            else none
          else
            (ix a0 i13).bind fun (x23 : Event) =>
            (F60 n (IntKind.wrap .u64 x23.ID)).bind fun (r24 : ByteArray) =>
            if (s12 ++ r16).size + r24.size ≤ 9223372036854775807 then
              (F47_l14 n a0 m) ((s12 ++ r16) ++ r24) (IntKind.wrap .i64 (i13 + 1))
            else none
      else none
    else
      some (s12, 0)
theorem F47_l14_ok (n : Nat) (a0 : (List Event)) : ∀ (m : Nat) (s12 : ByteArray) (i13 : Int), SimL Try.prog D (n + 8) m pc47_c53 [(0, .one (vw Event.cod a0)), (5, qs s12), (6, qj i13)] [] (F47_l14 n a0 m s12 i13) (QB 2 (QT Try.prog D (n + 8) pc47_c59 (QF false pc47_r 0 F47_e))) := by
  intro m_l14
  induction m_l14 with
  | zero => intro s12 i13; exact SimL.zero'  rfl
  | succ m_l14 ih_l14 =>
    intro s12 i13
    refine SimL.succ ?_
    unfold F47_l14
    refine Sim.seq (.seq (.rg [(0, .one (vw Event.cod a0)), (5, qs s12), (6, qj i13)] [] (.rd 4 [(29, qb (decide (i13 < ((a0).length : Int)))), (28, qj ((a0).length : Int)), (27, .one (vw Event.cod a0)), (26, qj i13)] [] (.thenN (.cond (decide (i13 < ((a0).length : Int))) (by kernel_rfl) ?_ ?_)))))
    · refine Sim.skip (.thenN (.seq (.block (.st 3 [(34, qj i13), (33, .one (vw Event.cod a0)), (32, qs s12)] [] (.bind (og := ix a0 i13) ⟨some 35, POp.iaddrS 25 (Operand.tmp 33) (Operand.tmp 34), none, []⟩ (fun x15 => [(35, .one (.eptr (Event.cod.enc x15) 0))]) (fun x15 => []) (by kernel_rfl) (fun x15 hr => pOp_eff (by kernel_rfl) (by kernel_rfl) (eff_idx (c := Event.cod) (l := a0) (k := .i64) (n := i13) (by kernel_rfl) (by kernel_rfl) (by kernel_rfl) hr)) (fun x15 => ?_))))))
      refine SimI.rn 3 [(38, .one (li .u64 (IntKind.wrap .u64 x15.Kind))), (37, qj x15.Kind), (36, .one (.eptr (Event.cod.enc x15) 0))] [] (.cl 39 true [[]] 60 [Operand.tmp 38] none (fun r16 => qs r16) [.one (li .u64 (IntKind.wrap .u64 x15.Kind))] (F60_ok n (IntKind.wrap .u64 x15.Kind)) (fun r16 => ?_))
      refine SimI.guard (c := s12.size + r16.size ≤ 9223372036854775807) ⟨some 40, POp.prim (Prim.bin BinOp.add 9 false false) [Operand.tmp 32, Operand.tmp 39], none, []⟩ [(40, qs (s12 ++ r16))] [] (by kernel_rfl) (fun hc => pOp_eff (by kernel_rfl) (by kernel_rfl) (eff_prim (by kernel_rfl) (pr_addS _ _ _ s12 r16 hc))) (.rd 1 [(5, qs (s12 ++ r16))] [] (.thenN (.st 2 [(42, qj i13), (41, .one (vw Event.cod a0))] [] (.bind (og := ix a0 i13) ⟨some 43, POp.iaddrS 25 (Operand.tmp 41) (Operand.tmp 42), none, []⟩ (fun x17 => [(43, .one (.eptr (Event.cod.enc x17) 0))]) (fun x17 => []) (by kernel_rfl) (fun x17 hr => pOp_eff (by kernel_rfl) (by kernel_rfl) (eff_idx (c := Event.cod) (l := a0) (k := .i64) (n := i13) (by kernel_rfl) (by kernel_rfl) (by kernel_rfl) hr)) (fun x17 => ?_)))))
      refine SimI.rd 2 [(45, qj x17.Kind), (44, .one (.eptr (Event.cod.enc x17) 0))] [] (.thenN (.block (.sr 2 [(55, qb (x17.Kind == 1)), (56, qb (x17.Kind == 1))] [] (.cond (x17.Kind == 1) (by kernel_rfl) ?_ ?_))))
      · refine Sim.region0 (.rn 3 [(59, qj i13), (58, .one (vw Event.cod a0)), (57, qs (s12 ++ r16))] [] (.bind (og := ix a0 i13) ⟨some 60, POp.iaddrS 25 (Operand.tmp 58) (Operand.tmp 59), none, []⟩ (fun x18 => [(60, .one (.eptr (Event.cod.enc x18) 0))]) (fun x18 => []) (by kernel_rfl) (fun x18 hr => pOp_eff (by kernel_rfl) (by kernel_rfl) (eff_idx (c := Event.cod) (l := a0) (k := .i64) (n := i13) (by kernel_rfl) (by kernel_rfl) (by kernel_rfl) hr)) (fun x18 => ?_)))
        refine SimI.rn 2 [(62, .agg (Thing.cells x18.Thing)), (61, .one (.eptr (Event.cod.enc x18) 2))] [] (.cl 63 true [[]] 20 [Operand.tmp 62] none (fun r19 => .agg (Delta.cells r19)) [.agg (Thing.cells x18.Thing)] (F20_ok n x18.Thing) (fun r19 => ?_))
        refine SimI.cl 64 true [[]] 19 [Operand.tmp 63] none (fun r20 => qs r20) [.agg (Delta.cells r19)] (F19_ok n r19) (fun r20 => ?_)
        refine SimI.guard (c := (s12 ++ r16).size + r20.size ≤ 9223372036854775807) ⟨some 65, POp.prim (Prim.bin BinOp.add 9 false false) [Operand.tmp 57, Operand.tmp 64], none, []⟩ [(65, qs ((s12 ++ r16) ++ r20))] [] (by kernel_rfl) (fun hc => pOp_eff (by kernel_rfl) (by kernel_rfl) (eff_prim (by kernel_rfl) (pr_addS _ _ _ (s12 ++ r16) r20 hc))) (.rd 1 [(5, qs ((s12 ++ r16) ++ r20))] [] (.blockN (.blockN (.thenN (.region0 (.rd 3 [(6, qj (IntKind.wrap .i64 (i13 + 1))), (31, qj (IntKind.wrap .i64 (i13 + 1))), (30, qj i13)] [] (.loopN (.pr [0, 5, 6] [] [] [(0, .one (vw Event.cod a0)), (5, qs ((s12 ++ r16) ++ r20)), (6, qj (IntKind.wrap .i64 (i13 + 1)))] [] ?_))))))))
        exact ih_l14 ((s12 ++ r16) ++ r20) (IntKind.wrap .i64 (i13 + 1))
      · refine Sim.sr 2 [(66, qb (x17.Kind == 2)), (67, qb (x17.Kind == 2))] [] (.cond (x17.Kind == 2) (by kernel_rfl) ?_ ?_)
        · refine Sim.region0 (.rn 3 [(70, qj i13), (69, .one (vw Event.cod a0)), (68, qs (s12 ++ r16))] [] (.bind (og := ix a0 i13) ⟨some 71, POp.iaddrS 25 (Operand.tmp 69) (Operand.tmp 70), none, []⟩ (fun x21 => [(71, .one (.eptr (Event.cod.enc x21) 0))]) (fun x21 => []) (by kernel_rfl) (fun x21 hr => pOp_eff (by kernel_rfl) (by kernel_rfl) (eff_idx (c := Event.cod) (l := a0) (k := .i64) (n := i13) (by kernel_rfl) (by kernel_rfl) (by kernel_rfl) hr)) (fun x21 => ?_)))
          refine SimI.rn 2 [(73, .agg (Delta.cells x21.Delta)), (72, .one (.eptr (Event.cod.enc x21) 13))] [] (.cl 74 true [[]] 19 [Operand.tmp 73] none (fun r22 => qs r22) [.agg (Delta.cells x21.Delta)] (F19_ok n x21.Delta) (fun r22 => ?_))
          refine SimI.guard (c := (s12 ++ r16).size + r22.size ≤ 9223372036854775807) ⟨some 75, POp.prim (Prim.bin BinOp.add 9 false false) [Operand.tmp 68, Operand.tmp 74], none, []⟩ [(75, qs ((s12 ++ r16) ++ r22))] [] (by kernel_rfl) (fun hc => pOp_eff (by kernel_rfl) (by kernel_rfl) (eff_prim (by kernel_rfl) (pr_addS _ _ _ (s12 ++ r16) r22 hc))) (.rd 1 [(5, qs ((s12 ++ r16) ++ r22))] [] (.blockN (.blockN (.thenN (.region0 (.rd 3 [(6, qj (IntKind.wrap .i64 (i13 + 1))), (31, qj (IntKind.wrap .i64 (i13 + 1))), (30, qj i13)] [] (.loopN (.pr [0, 5, 6] [] [] [(0, .one (vw Event.cod a0)), (5, qs ((s12 ++ r16) ++ r22)), (6, qj (IntKind.wrap .i64 (i13 + 1)))] [] ?_))))))))
          exact ih_l14 ((s12 ++ r16) ++ r22) (IntKind.wrap .i64 (i13 + 1))
        · refine Sim.region0 (.rn 3 [(48, qj i13), (47, .one (vw Event.cod a0)), (46, qs (s12 ++ r16))] [] (.bind (og := ix a0 i13) ⟨some 49, POp.iaddrS 25 (Operand.tmp 47) (Operand.tmp 48), none, []⟩ (fun x23 => [(49, .one (.eptr (Event.cod.enc x23) 0))]) (fun x23 => []) (by kernel_rfl) (fun x23 hr => pOp_eff (by kernel_rfl) (by kernel_rfl) (eff_idx (c := Event.cod) (l := a0) (k := .i64) (n := i13) (by kernel_rfl) (by kernel_rfl) (by kernel_rfl) hr)) (fun x23 => ?_)))
          refine SimI.rn 3 [(52, .one (li .u64 (IntKind.wrap .u64 x23.ID))), (51, qj x23.ID), (50, .one (.eptr (Event.cod.enc x23) 1))] [] (.cl 53 true [[]] 60 [Operand.tmp 52] none (fun r24 => qs r24) [.one (li .u64 (IntKind.wrap .u64 x23.ID))] (F60_ok n (IntKind.wrap .u64 x23.ID)) (fun r24 => ?_))
          refine SimI.guard (c := (s12 ++ r16).size + r24.size ≤ 9223372036854775807) ⟨some 54, POp.prim (Prim.bin BinOp.add 9 false false) [Operand.tmp 46, Operand.tmp 53], none, []⟩ [(54, qs ((s12 ++ r16) ++ r24))] [] (by kernel_rfl) (fun hc => pOp_eff (by kernel_rfl) (by kernel_rfl) (eff_prim (by kernel_rfl) (pr_addS _ _ _ (s12 ++ r16) r24 hc))) (.rd 1 [(5, qs ((s12 ++ r16) ++ r24))] [] (.blockN (.blockN (.thenN (.region0 (.rd 3 [(6, qj (IntKind.wrap .i64 (i13 + 1))), (31, qj (IntKind.wrap .i64 (i13 + 1))), (30, qj i13)] [] (.loopN (.pr [0, 5, 6] [] [] [(0, .one (vw Event.cod a0)), (5, qs ((s12 ++ r16) ++ r24)), (6, qj (IntKind.wrap .i64 (i13 + 1)))] [] ?_))))))))
          exact ih_l14 ((s12 ++ r16) ++ r24) (IntKind.wrap .i64 (i13 + 1))
    · exact Sim.exit (.thenX (.loopX (.blockX (.thenN (.sr 3 [(3, qj 0), (2, qs s12), (76, qs s12)] [] (.ret .fn))))))

def F47_l4 (n : Nat) (a0 : (List Event)) : Nat → Int → Option (ByteArray × Int)
  | 0, _ => none
  | m + 1, i3 =>
    if decide (i3 < ((a0).length : Int)) then
      (ix a0 i3).bind fun (x5 : Event) =>
      (F53 n x5).bind fun (r6 : Bool) =>
      if !(r6) then
        some (ByteArray.empty, 11)
      else
        (F47_l4 n a0 m) (IntKind.wrap .i64 (i3 + 1))
    else
      if decide ((400 : Int) < ((a0).length : Int)) then
        some (ByteArray.empty, 13)
      else
        (F60 n (IntKind.wrap .u64 ((a0).length : Int))).bind fun (r7 : ByteArray) =>
        F47_l14 n a0 (n + 8) r7 0
theorem F47_l4_ok (n : Nat) (a0 : (List Event)) : ∀ (m : Nat) (i3 : Int), SimL Try.prog D (n + 8) m pc47_c18 [(0, .one (vw Event.cod a0)), (4, qj i3)] [] (F47_l4 n a0 m i3) (QB 0 (QT Try.prog D (n + 8) pc47_c62 (QF false pc47_r 0 F47_e))) := by
  intro m_l4
  induction m_l4 with
  | zero => intro i3; exact SimL.zero'  rfl
  | succ m_l4 ih_l4 =>
    intro i3
    refine SimL.succ ?_
    unfold F47_l4
    refine Sim.seq (.seq (.rg [(0, .one (vw Event.cod a0)), (4, qj i3)] [] (.rd 4 [(10, qb (decide (i3 < ((a0).length : Int)))), (9, qj ((a0).length : Int)), (8, .one (vw Event.cod a0)), (7, qj i3)] [] (.thenN (.cond (decide (i3 < ((a0).length : Int))) (by kernel_rfl) ?_ ?_)))))
    · refine Sim.skip (.thenN (.seq (.block (.st 2 [(14, qj i3), (13, .one (vw Event.cod a0))] [] (.bind (og := ix a0 i3) ⟨some 15, POp.iaddrS 25 (Operand.tmp 13) (Operand.tmp 14), none, []⟩ (fun x5 => [(15, .one (.eptr (Event.cod.enc x5) 0))]) (fun x5 => []) (by kernel_rfl) (fun x5 hr => pOp_eff (by kernel_rfl) (by kernel_rfl) (eff_idx (c := Event.cod) (l := a0) (k := .i64) (n := i3) (by kernel_rfl) (by kernel_rfl) (by kernel_rfl) hr)) (fun x5 => ?_))))))
      refine SimI.rn 1 [(16, .agg (Event.cells x5))] [] (.cl 17 true [[]] 53 [Operand.tmp 16] none (fun r6 => qb r6) [.agg (Event.cells x5)] (F53_ok n x5) (fun r6 => ?_))
      refine SimI.rd 1 [(18, qb (!(r6)))] [] (.thenN (.cond (!(r6)) (by kernel_rfl) ?_ ?_))
      · exact Sim.sr 2 [(3, qj 11), (2, qs be)] [] (.ret (.blockR (.thenR (.loopR (.blockR (.thenR .fn))))))
      · refine Sim.skip (.blockN (.thenN (.region0 (.rd 3 [(4, qj (IntKind.wrap .i64 (i3 + 1))), (12, qj (IntKind.wrap .i64 (i3 + 1))), (11, qj i3)] [] (.loopN (.pr [0, 4] [] [] [(0, .one (vw Event.cod a0)), (4, qj (IntKind.wrap .i64 (i3 + 1)))] [] ?_))))))
        exact ih_l4 (IntKind.wrap .i64 (i3 + 1))
    · refine Sim.exit (.thenX (.loopX (.blockX (.thenN (.seq (.sr 3 [(21, qb (decide ((400 : Int) < ((a0).length : Int)))), (20, qj ((a0).length : Int)), (19, .one (vw Event.cod a0))] [] (.cond (decide ((400 : Int) < ((a0).length : Int))) (by kernel_rfl) ?_ ?_)))))))
      · exact Sim.sr 2 [(3, qj 13), (2, qs be)] [] (.ret (.thenR .fn))
      · refine Sim.skip (.thenN (.st 3 [(24, .one (li .u64 (IntKind.wrap .u64 ((a0).length : Int)))), (23, qj ((a0).length : Int)), (22, .one (vw Event.cod a0))] [] (.cl 25 true [[]] 60 [Operand.tmp 24] none (fun r7 => qs r7) [.one (li .u64 (IntKind.wrap .u64 ((a0).length : Int)))] (F60_ok n (IntKind.wrap .u64 ((a0).length : Int))) (fun r7 => ?_))))
        refine SimI.rd 1 [(5, qs r7)] [] (.thenN (.seq (.sr 1 [(6, qj 0)] [] (.block (.loop (.pr [0, 5, 6] [] [] [(0, .one (vw Event.cod a0)), (5, qs r7), (6, qj 0)] [] ?_))))))
        exact F47_l14_ok n a0 (n + 8) r7 0

def F47 (n : Nat) (a0 : (List Event)) : Option (ByteArray × Int) :=
  F47_l4 n a0 (n + 8) 0
theorem F47_ok (n : Nat) (a0 : (List Event)) : ∀ r, F47 n a0 = some r → D 47 [.one (vw Event.cod a0)] [] = some (F47_e r) := by
  refine fn_to (D := D) (n := n + 8) (nt := 77) (rs := pc47_r) (c := pc47_c64) (L := [(0, .one (vw Event.cod a0))]) (M := []) (k := 0) rfl rfl rfl rfl rfl rfl rfl ?_
  unfold F47
  refine Sim.sr 2 [(3, qj 0), (2, qs be)] [] (.seq (.sr 1 [(4, qj 0)] [] (.block (.loop (.pr [0, 4] [] [] [(0, .one (vw Event.cod a0)), (4, qj 0)] [] ?_)))))
  exact F47_l4_ok n a0 (n + 8) 0


-- 90: vedette/vedetteref6.At
def F90_e : Int → PV × List Ob := fun r => (.one (li .i64 r), [])
def F90_l4 (n : Nat) (a0 : (List Thing)) (a1 : Int) : Nat → Int → Option Int
  | 0, _ => none
  | m + 1, i3 =>
    if decide (i3 < ((a0).length : Int)) then
      (ix a0 i3).bind fun (x5 : Thing) =>
      if x5.ID == a1 then
        some i3
      else
        (F90_l4 n a0 a1 m) (IntKind.wrap .i64 (i3 + 1))
    else
      some (-1)
theorem F90_l4_ok (n : Nat) (a0 : (List Thing)) (a1 : Int) : ∀ (m : Nat) (i3 : Int), SimL Try.prog D (n + 8) m pc90_c18 [(0, .one (vw Thing.cod a0)), (1, qj a1), (5, qj i3)] [] (F90_l4 n a0 a1 m i3) (QB 0 (QT Try.prog D (n + 8) pc90_c24 (QF false pc90_r 0 F90_e))) := by
  intro m_l4
  induction m_l4 with
  | zero => intro i3; exact SimL.zero'  rfl
  | succ m_l4 ih_l4 =>
    intro i3
    refine SimL.succ ?_
    unfold F90_l4
    refine Sim.seq (.seq (.rg [(0, .one (vw Thing.cod a0)), (1, qj a1), (5, qj i3)] [] (.rd 4 [(9, qb (decide (i3 < ((a0).length : Int)))), (8, qj ((a0).length : Int)), (7, .one (vw Thing.cod a0)), (6, qj i3)] [] (.thenN (.cond (decide (i3 < ((a0).length : Int))) (by kernel_rfl) ?_ ?_)))))
    · refine Sim.skip (.thenN (.seq (.block (.st 2 [(13, qj i3), (12, .one (vw Thing.cod a0))] [] (.bind (og := ix a0 i3) ⟨some 14, POp.iaddrS 11 (Operand.tmp 12) (Operand.tmp 13), none, []⟩ (fun x5 => [(14, .one (.eptr (Thing.cod.enc x5) 0))]) (fun x5 => []) (by kernel_rfl) (fun x5 hr => pOp_eff (by kernel_rfl) (by kernel_rfl) (eff_idx (c := Thing.cod) (l := a0) (k := .i64) (n := i3) (by kernel_rfl) (by kernel_rfl) (by kernel_rfl) hr)) (fun x5 => ?_))))))
      refine SimI.rd 4 [(18, qb (x5.ID == a1)), (17, qj a1), (16, qj x5.ID), (15, .one (.eptr (Thing.cod.enc x5) 0))] [] (.thenN (.cond (x5.ID == a1) (by kernel_rfl) ?_ ?_))
      · exact Sim.sr 2 [(4, qj i3), (19, qj i3)] [] (.ret (.blockR (.thenR (.loopR (.blockR (.thenR .fn))))))
      · refine Sim.skip (.blockN (.thenN (.region0 (.rd 3 [(5, qj (IntKind.wrap .i64 (i3 + 1))), (11, qj (IntKind.wrap .i64 (i3 + 1))), (10, qj i3)] [] (.loopN (.pr [0, 1, 5] [] [] [(0, .one (vw Thing.cod a0)), (1, qj a1), (5, qj (IntKind.wrap .i64 (i3 + 1)))] [] ?_))))))
        exact ih_l4 (IntKind.wrap .i64 (i3 + 1))
    · exact Sim.exit (.thenX (.loopX (.blockX (.thenN (.sr 1 [(4, qj (-1))] [] (.ret .fn))))))

def F90 (n : Nat) (a0 : (List Thing)) (a1 : Int) : Option Int :=
  F90_l4 n a0 a1 (n + 8) 0
theorem F90_ok (n : Nat) (a0 : (List Thing)) (a1 : Int) : ∀ r, F90 n a0 a1 = some r → D 90 [.one (vw Thing.cod a0), .one (li .i64 a1)] [] = some (F90_e r) := by
  refine fn_to (D := D) (n := n + 8) (nt := 20) (rs := pc90_r) (c := pc90_c26) (L := [(0, .one (vw Thing.cod a0)), (1, qj a1)]) (M := []) (k := 0) rfl rfl rfl rfl rfl rfl rfl ?_
  unfold F90
  refine Sim.sr 1 [(4, qj 0)] [] (.seq (.sr 1 [(5, qj 0)] [] (.block (.loop (.pr [0, 1, 5] [] [] [(0, .one (vw Thing.cod a0)), (1, qj a1), (5, qj 0)] [] ?_)))))
  exact F90_l4_ok n a0 a1 (n + 8) 0


-- 91: vedette/vedetteref6.With
def F91_e : (List Thing) → PV × List Ob := fun r => (.one (vw Thing.cod r), [])
def F91_j14 (n : Nat) (a0 : (List Thing)) (a1 : Thing) (i9 : Int) (rec_l10 : (List Thing) → Bool → Int → Option (List Thing)) (l12 : (List Thing)) (b13 : Bool) : Option (List Thing) :=
    (ix a0 i9).bind fun (x15 : Thing) =>
    if x15.ID != a1.ID then
      (ix a0 i9).bind fun (x16 : Thing) =>
      if ((l12).length + 1) * 120 ≤ maxCells ∧ (l12).length + 1 ≤ maxCells then
        rec_l10 (l12 ++ [x16]) b13 (IntKind.wrap .i64 (i9 + 1))
      else none
    else
      rec_l10 l12 b13 (IntKind.wrap .i64 (i9 + 1))
theorem F91_j14_ok (n : Nat) (a0 : (List Thing)) (a1 : Thing) (i9 : Int) (rec_l10 : (List Thing) → Bool → Int → Option (List Thing)) (m_l10 : Nat) (ih_l10 : ∀ (l7 : (List Thing)) (b8 : Bool) (i9 : Int), SimL Try.prog D (n + 8) m_l10 pc91_c26 [(0, .one (vw Thing.cod a0)), (3, qp 3 0), (5, .one (.osl 100005 0 0 (l7).length)), (6, qb b8), (7, qj i9)] [(3, some (.cells (Thing.cells a1))), (100005, some (.arr 28 Thing.cod.sz 0 (l7).length (getOf Thing.cod l7)))] (rec_l10 l7 b8 i9) (QB 0 (QT Try.prog D (n + 8) pc91_c38 (QF false pc91_r 0 F91_e)))) (l12 : (List Thing)) (b13 : Bool) : Sim Try.prog D (n + 8) pc91_c21 [(0, .one (vw Thing.cod a0)), (3, qp 3 0), (5, .one (.osl 100005 0 0 (l12).length)), (6, qb b13), (7, qj i9)] [(3, some (.cells (Thing.cells a1))), (100005, some (.arr 28 Thing.cod.sz 0 (l12).length (getOf Thing.cod l12)))] (F91_j14 n a0 a1 i9 rec_l10 l12 b13) (QB 1 (QT Try.prog D (n + 8) pc91_c24 (QL Try.prog D (n + 8) m_l10 pc91_c26 (QB 0 (QT Try.prog D (n + 8) pc91_c38 (QF false pc91_r 0 F91_e)))))) := by
    unfold F91_j14
    refine Sim.seq (.rg [(0, .one (vw Thing.cod a0)), (3, qp 3 0), (5, .one (.osl 100005 0 0 (l12).length)), (6, qb b13), (7, qj i9)] [(3, some (.cells (Thing.cells a1))), (100005, some (.arr 28 Thing.cod.sz 0 (l12).length (getOf Thing.cod l12)))] (.rn 2 [(31, qj i9), (30, .one (vw Thing.cod a0))] [] (.bind (og := ix a0 i9) ⟨some 32, POp.iaddrS 11 (Operand.tmp 30) (Operand.tmp 31), none, [(30, Hint.imm), (31, Hint.imm)]⟩ (fun x15 => [(32, .one (.eptr (Thing.cod.enc x15) 0))]) (fun x15 => []) (by kernel_rfl) (fun x15 hr => pOp_eff (by kernel_rfl) (by kernel_rfl) (eff_idx (c := Thing.cod) (l := a0) (k := .i64) (n := i9) (by kernel_rfl) (by kernel_rfl) (by kernel_rfl) hr)) (fun x15 => ?_))))
    refine SimI.rd 5 [(37, qb (x15.ID != a1.ID)), (36, qj a1.ID), (35, qp 3 0), (34, qj x15.ID), (33, .one (.eptr (Thing.cod.enc x15) 0))] [] (.thenN (.cond (x15.ID != a1.ID) (by kernel_rfl) ?_ ?_))
    · refine Sim.region0 (.rn 3 [(40, qj i9), (39, .one (vw Thing.cod a0)), (38, .one (.osl 100005 0 0 (l12).length))] [] (.bind (og := ix a0 i9) ⟨some 41, POp.iaddrS 11 (Operand.tmp 39) (Operand.tmp 40), none, []⟩ (fun x16 => [(41, .one (.eptr (Thing.cod.enc x16) 0))]) (fun x16 => []) (by kernel_rfl) (fun x16 hr => pOp_eff (by kernel_rfl) (by kernel_rfl) (eff_idx (c := Thing.cod) (l := a0) (k := .i64) (n := i9) (by kernel_rfl) (by kernel_rfl) (by kernel_rfl) hr)) (fun x16 => ?_)))
      refine SimI.rn 2 [(43, .one (vw Thing.cod [x16])), (42, .agg (Thing.cells x16))] [] (.guard (c := ((l12).length + 1) * 120 ≤ maxCells ∧ (l12).length + 1 ≤ maxCells) ⟨some 44, POp.app 100005 28 11 120 (Operand.tmp 38) (Operand.tmp 43), none, []⟩ [(44, .one (.osl 100005 (0 + 1) 0 ((l12 ++ [x16])).length))] [(100005, some (.arr 28 Thing.cod.sz (0 + 1) ((l12 ++ [x16])).length (getOf Thing.cod (l12 ++ [x16]))))] (by kernel_rfl) (fun hc => pOp_eff (by kernel_rfl) (by kernel_rfl) (eff_appO (c := Thing.cod) (g := 0) (l := l12) (a := x16) (by kernel_rfl) (by kernel_rfl) (by kernel_rfl) (by kernel_rfl) hc)) (.rd 1 [(5, .one (.osl 100005 (0 + 1) 0 ((l12 ++ [x16])).length))] [] (.blockN (.thenN (.region0 (.rd 3 [(7, qj (IntKind.wrap .i64 (i9 + 1))), (13, qj (IntKind.wrap .i64 (i9 + 1))), (12, qj i9)] [] (.loopN (.pr [0, 3, 5, 6, 7] [3, 100005] [(false, 5, 0, 100005, 28, 11)] [(0, .one (vw Thing.cod a0)), (3, qp 3 0), (5, .one (.osl 100005 0 0 ((l12 ++ [x16])).length)), (6, qb b13), (7, qj (IntKind.wrap .i64 (i9 + 1)))] [(3, some (.cells (Thing.cells a1))), (100005, some (.arr 28 Thing.cod.sz 0 ((l12 ++ [x16])).length (getOf Thing.cod (l12 ++ [x16]))))] ?_))))))))
      exact ih_l10 (l12 ++ [x16]) b13 (IntKind.wrap .i64 (i9 + 1))
    · refine Sim.skip (.blockN (.thenN (.region0 (.rd 3 [(7, qj (IntKind.wrap .i64 (i9 + 1))), (13, qj (IntKind.wrap .i64 (i9 + 1))), (12, qj i9)] [] (.loopN (.pr [0, 3, 5, 6, 7] [3, 100005] [(false, 5, 0, 100005, 28, 11)] [(0, .one (vw Thing.cod a0)), (3, qp 3 0), (5, .one (.osl 100005 0 0 (l12).length)), (6, qb b13), (7, qj (IntKind.wrap .i64 (i9 + 1)))] [(3, some (.cells (Thing.cells a1))), (100005, some (.arr 28 Thing.cod.sz 0 (l12).length (getOf Thing.cod l12)))] ?_))))))
      exact ih_l10 l12 b13 (IntKind.wrap .i64 (i9 + 1))

def F91_l10 (n : Nat) (a0 : (List Thing)) (a1 : Thing) : Nat → (List Thing) → Bool → Int → Option (List Thing)
  | 0, _, _, _ => none
  | m + 1, l7, b8, i9 =>
    if decide (i9 < ((a0).length : Int)) then
      if !(b8) then
        (ix a0 i9).bind fun (x11 : Thing) =>
        if decide (a1.ID ≤ x11.ID) then
          if ((l7).length + 1) * 120 ≤ maxCells ∧ (l7).length + 1 ≤ maxCells then
            F91_j14 n a0 a1 i9 (F91_l10 n a0 a1 m) (l7 ++ [a1]) true
          else none
        else
          F91_j14 n a0 a1 i9 (F91_l10 n a0 a1 m) l7 b8
      else
        F91_j14 n a0 a1 i9 (F91_l10 n a0 a1 m) l7 b8
    else
      if !(b8) then
        if ((l7).length + 1) * 120 ≤ maxCells ∧ (l7).length + 1 ≤ maxCells then
          some (l7 ++ [a1])
        else none
      else
        some l7
theorem F91_l10_ok (n : Nat) (a0 : (List Thing)) (a1 : Thing) : ∀ (m : Nat) (l7 : (List Thing)) (b8 : Bool) (i9 : Int), SimL Try.prog D (n + 8) m pc91_c26 [(0, .one (vw Thing.cod a0)), (3, qp 3 0), (5, .one (.osl 100005 0 0 (l7).length)), (6, qb b8), (7, qj i9)] [(3, some (.cells (Thing.cells a1))), (100005, some (.arr 28 Thing.cod.sz 0 (l7).length (getOf Thing.cod l7)))] (F91_l10 n a0 a1 m l7 b8 i9) (QB 0 (QT Try.prog D (n + 8) pc91_c38 (QF false pc91_r 0 F91_e))) := by
  intro m_l10
  induction m_l10 with
  | zero => intro l7 b8 i9; exact SimL.zero'  rfl
  | succ m_l10 ih_l10 =>
    intro l7 b8 i9
    refine SimL.succ ?_
    unfold F91_l10
    refine Sim.seq (.seq (.rg [(0, .one (vw Thing.cod a0)), (3, qp 3 0), (5, .one (.osl 100005 0 0 (l7).length)), (6, qb b8), (7, qj i9)] [(3, some (.cells (Thing.cells a1))), (100005, some (.arr 28 Thing.cod.sz 0 (l7).length (getOf Thing.cod l7)))] (.rd 4 [(11, qb (decide (i9 < ((a0).length : Int)))), (10, qj ((a0).length : Int)), (9, .one (vw Thing.cod a0)), (8, qj i9)] [] (.thenN (.cond (decide (i9 < ((a0).length : Int))) (by kernel_rfl) ?_ ?_)))))
    · refine Sim.skip (.thenN (.seq (.block (.seq (.st 3 [(16, qb (!(b8))), (15, qb (!(b8))), (14, qb b8)] [] (.split 16 (!(b8)) (by kernel_rfl) ?_ ?_))))))
      · refine SimI.rn 4 [(20, qj i9), (19, .one (vw Thing.cod a0)), (18, qj a1.ID), (17, qp 3 0)] [] (.bind (og := ix a0 i9) ⟨some 21, POp.iaddrS 11 (Operand.tmp 19) (Operand.tmp 20), some (16, true), [(19, Hint.imm), (20, Hint.imm)]⟩ (fun x11 => [(21, .one (.eptr (Thing.cod.enc x11) 0))]) (fun x11 => []) (by kernel_rfl) (fun x11 hr => pOp_eff (by kernel_rfl) (by kernel_rfl) (eff_idx (c := Thing.cod) (l := a0) (k := .i64) (n := i9) (by kernel_rfl) (by kernel_rfl) (by kernel_rfl) hr)) (fun x11 => ?_))
        refine SimI.rd 4 [(25, qb (decide (a1.ID ≤ x11.ID))), (24, qb (decide (a1.ID ≤ x11.ID))), (23, qj x11.ID), (22, .one (.eptr (Thing.cod.enc x11) 0))] [] (.thenN (.cond (decide (a1.ID ≤ x11.ID)) (by kernel_rfl) ?_ ?_))
        · refine Sim.st 3 [(28, .one (vw Thing.cod [a1])), (27, .agg (Thing.cells a1)), (26, .one (.osl 100005 0 0 (l7).length))] [] (.guard (c := ((l7).length + 1) * 120 ≤ maxCells ∧ (l7).length + 1 ≤ maxCells) ⟨some 29, POp.app 100005 28 11 120 (Operand.tmp 26) (Operand.tmp 28), none, []⟩ [(29, .one (.osl 100005 (0 + 1) 0 ((l7 ++ [a1])).length))] [(100005, some (.arr 28 Thing.cod.sz (0 + 1) ((l7 ++ [a1])).length (getOf Thing.cod (l7 ++ [a1]))))] (by kernel_rfl) (fun hc => pOp_eff (by kernel_rfl) (by kernel_rfl) (eff_appO (c := Thing.cod) (g := 0) (l := l7) (a := a1) (by kernel_rfl) (by kernel_rfl) (by kernel_rfl) (by kernel_rfl) hc)) (.rd 1 [(5, .one (.osl 100005 (0 + 1) 0 ((l7 ++ [a1])).length))] [] (.thenN (.region0 (.rd 1 [(6, qb true)] [] (.thenN (.pr [0, 3, 5, 6, 7] [3, 100005] [(false, 5, 0, 100005, 28, 11)] [(0, .one (vw Thing.cod a0)), (3, qp 3 0), (5, .one (.osl 100005 0 0 ((l7 ++ [a1])).length)), (6, qb true), (7, qj i9)] [(3, some (.cells (Thing.cells a1))), (100005, some (.arr 28 Thing.cod.sz 0 ((l7 ++ [a1])).length (getOf Thing.cod (l7 ++ [a1]))))] ?_)))))))
          exact F91_j14_ok n a0 a1 i9 (F91_l10 n a0 a1 m_l10) m_l10 ih_l10 (l7 ++ [a1]) true
        · refine Sim.skip (.thenN (.pr [0, 3, 5, 6, 7] [3, 100005] [(false, 5, 0, 100005, 28, 11)] [(0, .one (vw Thing.cod a0)), (3, qp 3 0), (5, .one (.osl 100005 0 0 (l7).length)), (6, qb b8), (7, qj i9)] [(3, some (.cells (Thing.cells a1))), (100005, some (.arr 28 Thing.cod.sz 0 (l7).length (getOf Thing.cod l7)))] ?_))
          exact F91_j14_ok n a0 a1 i9 (F91_l10 n a0 a1 m_l10) m_l10 ih_l10 l7 b8
      · refine SimI.rd 9 [(25, qb false), (24, .tup []), (23, .tup []), (22, .tup []), (21, .tup []), (20, .tup []), (19, .tup []), (18, .tup []), (17, .tup [])] [] (.thenN (.condF (by kernel_rfl) (.skip (.thenN (.pr [0, 3, 5, 6, 7] [3, 100005] [(false, 5, 0, 100005, 28, 11)] [(0, .one (vw Thing.cod a0)), (3, qp 3 0), (5, .one (.osl 100005 0 0 (l7).length)), (6, qb b8), (7, qj i9)] [(3, some (.cells (Thing.cells a1))), (100005, some (.arr 28 Thing.cod.sz 0 (l7).length (getOf Thing.cod l7)))] ?_)))))
        exact F91_j14_ok n a0 a1 i9 (F91_l10 n a0 a1 m_l10) m_l10 ih_l10 l7 b8
    · refine Sim.exit (.thenX (.loopX (.blockX (.thenN (.seq (.sr 2 [(46, qb (!(b8))), (45, qb b8)] [] (.cond (!(b8)) (by kernel_rfl) ?_ ?_)))))))
      · exact Sim.region0 (.rn 3 [(49, .one (vw Thing.cod [a1])), (48, .agg (Thing.cells a1)), (47, .one (.osl 100005 0 0 (l7).length))] [] (.guard (c := ((l7).length + 1) * 120 ≤ maxCells ∧ (l7).length + 1 ≤ maxCells) ⟨some 50, POp.app 100005 28 11 120 (Operand.tmp 47) (Operand.tmp 49), none, []⟩ [(50, .one (.osl 100005 (0 + 1) 0 ((l7 ++ [a1])).length))] [(100005, some (.arr 28 Thing.cod.sz (0 + 1) ((l7 ++ [a1])).length (getOf Thing.cod (l7 ++ [a1]))))] (by kernel_rfl) (fun hc => pOp_eff (by kernel_rfl) (by kernel_rfl) (eff_appO (c := Thing.cod) (g := 0) (l := l7) (a := a1) (by kernel_rfl) (by kernel_rfl) (by kernel_rfl) (by kernel_rfl) hc)) (.rd 1 [(5, .one (.osl 100005 (0 + 1) 0 ((l7 ++ [a1])).length))] [] (.thenN (.sr 2 [(4, .one (.osl 100005 (0 + 1) 0 ((l7 ++ [a1])).length)), (51, .one (.osl 100005 (0 + 1) 0 ((l7 ++ [a1])).length))] [] (.ret (.fin (out_of (os := []) (ress_cons (resOf_own (c := Thing.cod) (k := 100005) (g := (0 + 1)) (el := 28) (l := (l7 ++ [a1])) (by kernel_rfl) (by kernel_rfl) (by kernel_rfl)) (ress_nil)) (by kernel_rfl) rfl (by kernel_rfl)))))))))
      · exact Sim.skip (.thenN (.sr 2 [(4, .one (.osl 100005 0 0 (l7).length)), (51, .one (.osl 100005 0 0 (l7).length))] [] (.ret (.fin (out_of (os := []) (ress_cons (resOf_own (c := Thing.cod) (k := 100005) (g := 0) (el := 28) (l := l7) (by kernel_rfl) (by kernel_rfl) (by kernel_rfl)) (ress_nil)) (by kernel_rfl) rfl (by kernel_rfl))))))

def F91 (n : Nat) (a0 : (List Thing)) (a1 : Thing) : Option (List Thing) :=
  F91_l10 n a0 a1 (n + 8) ([] : List Thing) false 0
theorem F91_ok (n : Nat) (a0 : (List Thing)) (a1 : Thing) : ∀ r, F91 n a0 a1 = some r → D 91 [.one (vw Thing.cod a0), .agg (Thing.cells a1)] [] = some (F91_e r) := by
  refine fn_to (D := D) (n := n + 8) (nt := 52) (rs := pc91_r) (c := pc91_c42) (L := [(0, .one (vw Thing.cod a0)), (1, .agg (Thing.cells a1))]) (M := []) (k := 0) rfl rfl rfl rfl rfl rfl rfl ?_
  unfold F91
  refine Sim.sr 2 [(4, .one (lnil)), (3, qp 3 0)] [(3, some (.cells (Thing.cells a1)))] (.sr 1 [(5, .one (lnil))] [] (.sr 1 [(6, qb false)] [] (.seq (.sr 1 [(7, qj 0)] [] (.block (.loop (.pr [0, 3, 5, 6, 7] [3, 100005] [(false, 5, 0, 100005, 28, 11)] [(0, .one (vw Thing.cod a0)), (3, qp 3 0), (5, .one (.osl 100005 0 0 (([] : List Thing)).length)), (6, qb false), (7, qj 0)] [(3, some (.cells (Thing.cells a1))), (100005, some (.arr 28 Thing.cod.sz 0 (([] : List Thing)).length (getOf Thing.cod ([] : List Thing))))] ?_)))))))
  exact F91_l10_ok n a0 a1 (n + 8) ([] : List Thing) false 0


-- 92: vedette/vedetteref6.Apply
def F92_e : Thing → PV × List Ob := fun r => (.agg (Thing.cells r), [])
def F92_u10 (n : Nat) (g9 : Thing) : Option Thing :=
    some g9
theorem F92_u10_ok (n : Nat) (a1 : Delta) (g9 : Thing) : SimL Try.prog D (n + 8) (n + 4) pc92_c22 [(3, qp 3 0), (4, qp 4 0), (5, qp 5 0), (6, qj 4)] [(3, some (.cells (Delta.cells a1))), (4, some (.cells [lj 0, lj 0, lj 0, lj 0, ls be, lj 0, ls be, lj 0, ls be, lj 0, ls be])), (5, some (.cells (Thing.cells g9)))] (F92_u10 n g9) (QB 0 (QT Try.prog D (n + 8) pc92_c28 (QF false pc92_r 0 F92_e))) := by
    unfold F92_u10
    exact SimL.succ (.seq (.seq (.rg [(3, qp 3 0), (4, qp 4 0), (5, qp 5 0), (6, qj 4)] [(3, some (.cells (Delta.cells a1))), (4, some (.cells [lj 0, lj 0, lj 0, lj 0, ls be, lj 0, ls be, lj 0, ls be, lj 0, ls be])), (5, some (.cells (Thing.cells g9)))] (.rd 2 [(16, qb false), (15, qj 4)] [] (.thenN (.condF (by kernel_rfl) (.exit (.thenX (.loopX (.blockX (.thenN (.sr 2 [(34, .agg (Thing.cells g9))] [(4, some (.cells (Thing.cells g9)))] (.ret .fn)))))))))))))

def F92_u8 (n : Nat) (a0 : Thing) (a1 : Delta) (g7 : Thing) : Option Thing :=
    if (bitsI .and .u8 (shrI .u8 a1.Mask 4) 1) != 0 then
      F92_u10 n (Thing.mk g7.ID g7.At (A4.mk g7.F.a0 g7.F.a1 g7.F.a2 a1.F.a3))
    else
      F92_u10 n g7
theorem F92_u8_ok (n : Nat) (a0 : Thing) (a1 : Delta) (g7 : Thing) : SimL Try.prog D (n + 8) (n + 5) pc92_c22 [(3, qp 3 0), (4, qp 4 0), (5, qp 5 0), (6, qj 3)] [(3, some (.cells (Delta.cells a1))), (4, some (.cells [lj 0, lj 0, lj 0, lj 0, ls be, lj 0, ls be, lj 0, ls be, lj 0, ls be])), (5, some (.cells (Thing.cells g7)))] (F92_u8 n a0 a1 g7) (QB 0 (QT Try.prog D (n + 8) pc92_c28 (QF false pc92_r 0 F92_e))) := by
    unfold F92_u8
    refine SimL.succ (.seq (.seq (.rg [(3, qp 3 0), (4, qp 4 0), (5, qp 5 0), (6, qj 3)] [(3, some (.cells (Delta.cells a1))), (4, some (.cells [lj 0, lj 0, lj 0, lj 0, ls be, lj 0, ls be, lj 0, ls be, lj 0, ls be])), (5, some (.cells (Thing.cells g7)))] (.rd 2 [(16, qb true), (15, qj 3)] [] (.thenN (.condT (by kernel_rfl) (.skip (.thenN (.seq (.block (.sr 8 [(26, qb ((bitsI .and .u8 (shrI .u8 a1.Mask 4) 1) != 0)), (25, .one (li .u8 (bitsI .and .u8 (shrI .u8 a1.Mask 4) 1))), (24, .one (li .u8 (shrI .u8 a1.Mask 4))), (23, .one (li .u64 4)), (22, qj 4), (21, qj 3), (20, .one (li .u8 a1.Mask)), (19, qp 3 1)] [] (.cond ((bitsI .and .u8 (shrI .u8 a1.Mask 4) 1) != 0) (by kernel_rfl) ?_ ?_))))))))))))
    · refine Sim.region0 (.rd 8 [(33, qp 5 9), (32, qp 5 3), (31, .agg [lj a1.F.a3.N, ls a1.F.a3.Text]), (30, qp 3 10), (29, qp 3 4), (28, qj 3), (27, qj 3)] [(5, some (.cells [lj g7.ID, lj g7.At.X, lj g7.At.Y, lj g7.F.a0.N, ls g7.F.a0.Text, lj g7.F.a1.N, ls g7.F.a1.Text, lj g7.F.a2.N, ls g7.F.a2.Text, lj a1.F.a3.N, ls a1.F.a3.Text]))] (.blockN (.thenN (.region0 (.rd 3 [(6, qj 4), (18, qj 4), (17, qj 3)] [] (.loopN (.pr [3, 4, 5, 6] [3, 4, 5] [] [(3, qp 3 0), (4, qp 4 0), (5, qp 5 0), (6, qj 4)] [(3, some (.cells (Delta.cells a1))), (4, some (.cells [lj 0, lj 0, lj 0, lj 0, ls be, lj 0, ls be, lj 0, ls be, lj 0, ls be])), (5, some (.cells [lj g7.ID, lj g7.At.X, lj g7.At.Y, lj g7.F.a0.N, ls g7.F.a0.Text, lj g7.F.a1.N, ls g7.F.a1.Text, lj g7.F.a2.N, ls g7.F.a2.Text, lj a1.F.a3.N, ls a1.F.a3.Text]))] ?_)))))))
      exact F92_u10_ok n a1 (Thing.mk g7.ID g7.At (A4.mk g7.F.a0 g7.F.a1 g7.F.a2 a1.F.a3))
    · refine Sim.skip (.blockN (.thenN (.region0 (.rd 3 [(6, qj 4), (18, qj 4), (17, qj 3)] [] (.loopN (.pr [3, 4, 5, 6] [3, 4, 5] [] [(3, qp 3 0), (4, qp 4 0), (5, qp 5 0), (6, qj 4)] [(3, some (.cells (Delta.cells a1))), (4, some (.cells [lj 0, lj 0, lj 0, lj 0, ls be, lj 0, ls be, lj 0, ls be, lj 0, ls be])), (5, some (.cells (Thing.cells g7)))] ?_))))))
      exact F92_u10_ok n a1 g7

def F92_u6 (n : Nat) (a0 : Thing) (a1 : Delta) (g5 : Thing) : Option Thing :=
    if (bitsI .and .u8 (shrI .u8 a1.Mask 3) 1) != 0 then
      F92_u8 n a0 a1 (Thing.mk g5.ID g5.At (A4.mk g5.F.a0 g5.F.a1 a1.F.a2 g5.F.a3))
    else
      F92_u8 n a0 a1 g5
theorem F92_u6_ok (n : Nat) (a0 : Thing) (a1 : Delta) (g5 : Thing) : SimL Try.prog D (n + 8) (n + 6) pc92_c22 [(3, qp 3 0), (4, qp 4 0), (5, qp 5 0), (6, qj 2)] [(3, some (.cells (Delta.cells a1))), (4, some (.cells [lj 0, lj 0, lj 0, lj 0, ls be, lj 0, ls be, lj 0, ls be, lj 0, ls be])), (5, some (.cells (Thing.cells g5)))] (F92_u6 n a0 a1 g5) (QB 0 (QT Try.prog D (n + 8) pc92_c28 (QF false pc92_r 0 F92_e))) := by
    unfold F92_u6
    refine SimL.succ (.seq (.seq (.rg [(3, qp 3 0), (4, qp 4 0), (5, qp 5 0), (6, qj 2)] [(3, some (.cells (Delta.cells a1))), (4, some (.cells [lj 0, lj 0, lj 0, lj 0, ls be, lj 0, ls be, lj 0, ls be, lj 0, ls be])), (5, some (.cells (Thing.cells g5)))] (.rd 2 [(16, qb true), (15, qj 2)] [] (.thenN (.condT (by kernel_rfl) (.skip (.thenN (.seq (.block (.sr 8 [(26, qb ((bitsI .and .u8 (shrI .u8 a1.Mask 3) 1) != 0)), (25, .one (li .u8 (bitsI .and .u8 (shrI .u8 a1.Mask 3) 1))), (24, .one (li .u8 (shrI .u8 a1.Mask 3))), (23, .one (li .u64 3)), (22, qj 3), (21, qj 2), (20, .one (li .u8 a1.Mask)), (19, qp 3 1)] [] (.cond ((bitsI .and .u8 (shrI .u8 a1.Mask 3) 1) != 0) (by kernel_rfl) ?_ ?_))))))))))))
    · refine Sim.region0 (.rd 8 [(33, qp 5 7), (32, qp 5 3), (31, .agg [lj a1.F.a2.N, ls a1.F.a2.Text]), (30, qp 3 8), (29, qp 3 4), (28, qj 2), (27, qj 2)] [(5, some (.cells [lj g5.ID, lj g5.At.X, lj g5.At.Y, lj g5.F.a0.N, ls g5.F.a0.Text, lj g5.F.a1.N, ls g5.F.a1.Text, lj a1.F.a2.N, ls a1.F.a2.Text, lj g5.F.a3.N, ls g5.F.a3.Text]))] (.blockN (.thenN (.region0 (.rd 3 [(6, qj 3), (18, qj 3), (17, qj 2)] [] (.loopN (.pr [3, 4, 5, 6] [3, 4, 5] [] [(3, qp 3 0), (4, qp 4 0), (5, qp 5 0), (6, qj 3)] [(3, some (.cells (Delta.cells a1))), (4, some (.cells [lj 0, lj 0, lj 0, lj 0, ls be, lj 0, ls be, lj 0, ls be, lj 0, ls be])), (5, some (.cells [lj g5.ID, lj g5.At.X, lj g5.At.Y, lj g5.F.a0.N, ls g5.F.a0.Text, lj g5.F.a1.N, ls g5.F.a1.Text, lj a1.F.a2.N, ls a1.F.a2.Text, lj g5.F.a3.N, ls g5.F.a3.Text]))] ?_)))))))
      exact F92_u8_ok n a0 a1 (Thing.mk g5.ID g5.At (A4.mk g5.F.a0 g5.F.a1 a1.F.a2 g5.F.a3))
    · refine Sim.skip (.blockN (.thenN (.region0 (.rd 3 [(6, qj 3), (18, qj 3), (17, qj 2)] [] (.loopN (.pr [3, 4, 5, 6] [3, 4, 5] [] [(3, qp 3 0), (4, qp 4 0), (5, qp 5 0), (6, qj 3)] [(3, some (.cells (Delta.cells a1))), (4, some (.cells [lj 0, lj 0, lj 0, lj 0, ls be, lj 0, ls be, lj 0, ls be, lj 0, ls be])), (5, some (.cells (Thing.cells g5)))] ?_))))))
      exact F92_u8_ok n a0 a1 g5

def F92_u4 (n : Nat) (a0 : Thing) (a1 : Delta) (g3 : Thing) : Option Thing :=
    if (bitsI .and .u8 (shrI .u8 a1.Mask 2) 1) != 0 then
      F92_u6 n a0 a1 (Thing.mk g3.ID g3.At (A4.mk g3.F.a0 a1.F.a1 g3.F.a2 g3.F.a3))
    else
      F92_u6 n a0 a1 g3
theorem F92_u4_ok (n : Nat) (a0 : Thing) (a1 : Delta) (g3 : Thing) : SimL Try.prog D (n + 8) (n + 7) pc92_c22 [(3, qp 3 0), (4, qp 4 0), (5, qp 5 0), (6, qj 1)] [(3, some (.cells (Delta.cells a1))), (4, some (.cells [lj 0, lj 0, lj 0, lj 0, ls be, lj 0, ls be, lj 0, ls be, lj 0, ls be])), (5, some (.cells (Thing.cells g3)))] (F92_u4 n a0 a1 g3) (QB 0 (QT Try.prog D (n + 8) pc92_c28 (QF false pc92_r 0 F92_e))) := by
    unfold F92_u4
    refine SimL.succ (.seq (.seq (.rg [(3, qp 3 0), (4, qp 4 0), (5, qp 5 0), (6, qj 1)] [(3, some (.cells (Delta.cells a1))), (4, some (.cells [lj 0, lj 0, lj 0, lj 0, ls be, lj 0, ls be, lj 0, ls be, lj 0, ls be])), (5, some (.cells (Thing.cells g3)))] (.rd 2 [(16, qb true), (15, qj 1)] [] (.thenN (.condT (by kernel_rfl) (.skip (.thenN (.seq (.block (.sr 8 [(26, qb ((bitsI .and .u8 (shrI .u8 a1.Mask 2) 1) != 0)), (25, .one (li .u8 (bitsI .and .u8 (shrI .u8 a1.Mask 2) 1))), (24, .one (li .u8 (shrI .u8 a1.Mask 2))), (23, .one (li .u64 2)), (22, qj 2), (21, qj 1), (20, .one (li .u8 a1.Mask)), (19, qp 3 1)] [] (.cond ((bitsI .and .u8 (shrI .u8 a1.Mask 2) 1) != 0) (by kernel_rfl) ?_ ?_))))))))))))
    · refine Sim.region0 (.rd 8 [(33, qp 5 5), (32, qp 5 3), (31, .agg [lj a1.F.a1.N, ls a1.F.a1.Text]), (30, qp 3 6), (29, qp 3 4), (28, qj 1), (27, qj 1)] [(5, some (.cells [lj g3.ID, lj g3.At.X, lj g3.At.Y, lj g3.F.a0.N, ls g3.F.a0.Text, lj a1.F.a1.N, ls a1.F.a1.Text, lj g3.F.a2.N, ls g3.F.a2.Text, lj g3.F.a3.N, ls g3.F.a3.Text]))] (.blockN (.thenN (.region0 (.rd 3 [(6, qj 2), (18, qj 2), (17, qj 1)] [] (.loopN (.pr [3, 4, 5, 6] [3, 4, 5] [] [(3, qp 3 0), (4, qp 4 0), (5, qp 5 0), (6, qj 2)] [(3, some (.cells (Delta.cells a1))), (4, some (.cells [lj 0, lj 0, lj 0, lj 0, ls be, lj 0, ls be, lj 0, ls be, lj 0, ls be])), (5, some (.cells [lj g3.ID, lj g3.At.X, lj g3.At.Y, lj g3.F.a0.N, ls g3.F.a0.Text, lj a1.F.a1.N, ls a1.F.a1.Text, lj g3.F.a2.N, ls g3.F.a2.Text, lj g3.F.a3.N, ls g3.F.a3.Text]))] ?_)))))))
      exact F92_u6_ok n a0 a1 (Thing.mk g3.ID g3.At (A4.mk g3.F.a0 a1.F.a1 g3.F.a2 g3.F.a3))
    · refine Sim.skip (.blockN (.thenN (.region0 (.rd 3 [(6, qj 2), (18, qj 2), (17, qj 1)] [] (.loopN (.pr [3, 4, 5, 6] [3, 4, 5] [] [(3, qp 3 0), (4, qp 4 0), (5, qp 5 0), (6, qj 2)] [(3, some (.cells (Delta.cells a1))), (4, some (.cells [lj 0, lj 0, lj 0, lj 0, ls be, lj 0, ls be, lj 0, ls be, lj 0, ls be])), (5, some (.cells (Thing.cells g3)))] ?_))))))
      exact F92_u6_ok n a0 a1 g3

def F92_j2 (n : Nat) (a0 : Thing) (a1 : Delta) (g1 : Thing) : Option Thing :=
    if (bitsI .and .u8 (shrI .u8 a1.Mask 1) 1) != 0 then
      F92_u4 n a0 a1 (Thing.mk g1.ID g1.At (A4.mk a1.F.a0 g1.F.a1 g1.F.a2 g1.F.a3))
    else
      F92_u4 n a0 a1 g1
theorem F92_j2_ok (n : Nat) (a0 : Thing) (a1 : Delta) (g1 : Thing) : Sim Try.prog D (n + 8) pc92_c29 [(3, qp 3 0), (4, qp 4 0), (5, qp 5 0)] [(3, some (.cells (Delta.cells a1))), (4, some (.cells [lj 0, lj 0, lj 0, lj 0, ls be, lj 0, ls be, lj 0, ls be, lj 0, ls be])), (5, some (.cells (Thing.cells g1)))] (F92_j2 n a0 a1 g1) (QF false pc92_r 0 F92_e) := by
    unfold F92_j2
    refine Sim.seq (.seq (.rg [(3, qp 3 0), (4, qp 4 0), (5, qp 5 0)] [(3, some (.cells (Delta.cells a1))), (4, some (.cells [lj 0, lj 0, lj 0, lj 0, ls be, lj 0, ls be, lj 0, ls be, lj 0, ls be])), (5, some (.cells (Thing.cells g1)))] (.rd 1 [(6, qj 0)] [] (.thenN (.block (.loop (.succ (.seq (.seq (.rg [(3, qp 3 0), (4, qp 4 0), (5, qp 5 0), (6, qj 0)] [(3, some (.cells (Delta.cells a1))), (4, some (.cells [lj 0, lj 0, lj 0, lj 0, ls be, lj 0, ls be, lj 0, ls be, lj 0, ls be])), (5, some (.cells (Thing.cells g1)))] (.rd 2 [(16, qb true), (15, qj 0)] [] (.thenN (.condT (by kernel_rfl) (.skip (.thenN (.seq (.block (.sr 8 [(26, qb ((bitsI .and .u8 (shrI .u8 a1.Mask 1) 1) != 0)), (25, .one (li .u8 (bitsI .and .u8 (shrI .u8 a1.Mask 1) 1))), (24, .one (li .u8 (shrI .u8 a1.Mask 1))), (23, .one (li .u64 1)), (22, qj 1), (21, qj 0), (20, .one (li .u8 a1.Mask)), (19, qp 3 1)] [] (.cond ((bitsI .and .u8 (shrI .u8 a1.Mask 1) 1) != 0) (by kernel_rfl) ?_ ?_)))))))))))))))))))
    · refine Sim.region0 (.rd 8 [(33, qp 5 3), (32, qp 5 3), (31, .agg [lj a1.F.a0.N, ls a1.F.a0.Text]), (30, qp 3 4), (29, qp 3 4), (28, qj 0), (27, qj 0)] [(5, some (.cells [lj g1.ID, lj g1.At.X, lj g1.At.Y, lj a1.F.a0.N, ls a1.F.a0.Text, lj g1.F.a1.N, ls g1.F.a1.Text, lj g1.F.a2.N, ls g1.F.a2.Text, lj g1.F.a3.N, ls g1.F.a3.Text]))] (.blockN (.thenN (.region0 (.rd 3 [(6, qj 1), (18, qj 1), (17, qj 0)] [] (.loopN (.pr [3, 4, 5, 6] [3, 4, 5] [] [(3, qp 3 0), (4, qp 4 0), (5, qp 5 0), (6, qj 1)] [(3, some (.cells (Delta.cells a1))), (4, some (.cells [lj 0, lj 0, lj 0, lj 0, ls be, lj 0, ls be, lj 0, ls be, lj 0, ls be])), (5, some (.cells [lj g1.ID, lj g1.At.X, lj g1.At.Y, lj a1.F.a0.N, ls a1.F.a0.Text, lj g1.F.a1.N, ls g1.F.a1.Text, lj g1.F.a2.N, ls g1.F.a2.Text, lj g1.F.a3.N, ls g1.F.a3.Text]))] ?_)))))))
      exact F92_u4_ok n a0 a1 (Thing.mk g1.ID g1.At (A4.mk a1.F.a0 g1.F.a1 g1.F.a2 g1.F.a3))
    · refine Sim.skip (.blockN (.thenN (.region0 (.rd 3 [(6, qj 1), (18, qj 1), (17, qj 0)] [] (.loopN (.pr [3, 4, 5, 6] [3, 4, 5] [] [(3, qp 3 0), (4, qp 4 0), (5, qp 5 0), (6, qj 1)] [(3, some (.cells (Delta.cells a1))), (4, some (.cells [lj 0, lj 0, lj 0, lj 0, ls be, lj 0, ls be, lj 0, ls be, lj 0, ls be])), (5, some (.cells (Thing.cells g1)))] ?_))))))
      exact F92_u4_ok n a0 a1 g1

def F92 (n : Nat) (a0 : Thing) (a1 : Delta) : Option Thing :=
  if (bitsI .and .u8 a1.Mask 1) != 0 then
    F92_j2 n a0 a1 (Thing.mk a0.ID a1.At a0.F)
  else
    F92_j2 n a0 a1 a0
theorem F92_ok (n : Nat) (a0 : Thing) (a1 : Delta) : ∀ r, F92 n a0 a1 = some r → D 92 [.agg (Thing.cells a0), .agg (Delta.cells a1)] [] = some (F92_e r) := by
  refine fn_to (D := D) (n := n + 8) (nt := 35) (rs := pc92_r) (c := pc92_c32) (L := [(0, .agg (Thing.cells a0)), (1, .agg (Delta.cells a1))]) (M := []) (k := 0) rfl rfl rfl rfl rfl rfl rfl ?_
  unfold F92
  refine Sim.sr 3 [(4, qp 4 0), (3, qp 3 0), (2, qp 2 0)] [(4, some (.cells [lj 0, lj 0, lj 0, lj 0, ls be, lj 0, ls be, lj 0, ls be, lj 0, ls be])), (3, some (.cells (Delta.cells a1))), (2, some (.cells (Thing.cells a0)))] (.sr 3 [(5, qp 5 0), (7, .agg (Thing.cells a0))] [(5, some (.cells (Thing.cells a0))), (5, some (.cells [lj 0, lj 0, lj 0, lj 0, ls be, lj 0, ls be, lj 0, ls be, lj 0, ls be]))] (.seq (.sr 4 [(11, qb ((bitsI .and .u8 a1.Mask 1) != 0)), (10, .one (li .u8 (bitsI .and .u8 a1.Mask 1))), (9, .one (li .u8 a1.Mask)), (8, qp 3 1)] [] (.cond ((bitsI .and .u8 a1.Mask 1) != 0) (by kernel_rfl) ?_ ?_))))
  · refine Sim.region0 (.rd 4 [(14, qp 5 1), (13, .agg [lj a1.At.X, lj a1.At.Y]), (12, qp 3 2)] [(5, some (.cells [lj a0.ID, lj a1.At.X, lj a1.At.Y, lj a0.F.a0.N, ls a0.F.a0.Text, lj a0.F.a1.N, ls a0.F.a1.Text, lj a0.F.a2.N, ls a0.F.a2.Text, lj a0.F.a3.N, ls a0.F.a3.Text]))] (.thenN (.pr [3, 4, 5] [2, 3, 4, 5] [] [(3, qp 3 0), (4, qp 4 0), (5, qp 5 0)] [(3, some (.cells (Delta.cells a1))), (4, some (.cells [lj 0, lj 0, lj 0, lj 0, ls be, lj 0, ls be, lj 0, ls be, lj 0, ls be])), (5, some (.cells [lj a0.ID, lj a1.At.X, lj a1.At.Y, lj a0.F.a0.N, ls a0.F.a0.Text, lj a0.F.a1.N, ls a0.F.a1.Text, lj a0.F.a2.N, ls a0.F.a2.Text, lj a0.F.a3.N, ls a0.F.a3.Text]))] ?_)))
    exact F92_j2_ok n a0 a1 (Thing.mk a0.ID a1.At a0.F)
  · refine Sim.skip (.thenN (.pr [3, 4, 5] [2, 3, 4, 5] [] [(3, qp 3 0), (4, qp 4 0), (5, qp 5 0)] [(3, some (.cells (Delta.cells a1))), (4, some (.cells [lj 0, lj 0, lj 0, lj 0, ls be, lj 0, ls be, lj 0, ls be, lj 0, ls be])), (5, some (.cells (Thing.cells a0)))] ?_))
    exact F92_j2_ok n a0 a1 a0


-- 93: vedette/vedetteref6.Without
def F93_e : (List Thing) → PV × List Ob := fun r => (.one (vw Thing.cod r), [])
def F93_l7 (n : Nat) (a0 : (List Thing)) (a1 : Int) : Nat → (List Thing) → Int → Option (List Thing)
  | 0, _, _ => none
  | m + 1, l5, i6 =>
    if decide (i6 < ((a0).length : Int)) then
      (ix a0 i6).bind fun (x8 : Thing) =>
      if x8.ID != a1 then
        (ix a0 i6).bind fun (x9 : Thing) =>
        if ((l5).length + 1) * 120 ≤ maxCells ∧ (l5).length + 1 ≤ maxCells then
          (F93_l7 n a0 a1 m) (l5 ++ [x9]) (IntKind.wrap .i64 (i6 + 1))
        else none
      else
        (F93_l7 n a0 a1 m) l5 (IntKind.wrap .i64 (i6 + 1))
    else
      some l5
theorem F93_l7_ok (n : Nat) (a0 : (List Thing)) (a1 : Int) : ∀ (m : Nat) (l5 : (List Thing)) (i6 : Int), SimL Try.prog D (n + 8) m pc93_c17 [(0, .one (vw Thing.cod a0)), (1, qj a1), (5, .one (.osl 100005 0 0 (l5).length)), (6, qj i6)] [(100005, some (.arr 28 Thing.cod.sz 0 (l5).length (getOf Thing.cod l5)))] (F93_l7 n a0 a1 m l5 i6) (QB 0 (QT Try.prog D (n + 8) pc93_c23 (QF false pc93_r 0 F93_e))) := by
  intro m_l7
  induction m_l7 with
  | zero => intro l5 i6; exact SimL.zero'  rfl
  | succ m_l7 ih_l7 =>
    intro l5 i6
    refine SimL.succ ?_
    unfold F93_l7
    refine Sim.seq (.seq (.rg [(0, .one (vw Thing.cod a0)), (1, qj a1), (5, .one (.osl 100005 0 0 (l5).length)), (6, qj i6)] [(100005, some (.arr 28 Thing.cod.sz 0 (l5).length (getOf Thing.cod l5)))] (.rd 4 [(10, qb (decide (i6 < ((a0).length : Int)))), (9, qj ((a0).length : Int)), (8, .one (vw Thing.cod a0)), (7, qj i6)] [] (.thenN (.cond (decide (i6 < ((a0).length : Int))) (by kernel_rfl) ?_ ?_)))))
    · refine Sim.skip (.thenN (.seq (.block (.st 2 [(14, qj i6), (13, .one (vw Thing.cod a0))] [] (.bind (og := ix a0 i6) ⟨some 15, POp.iaddrS 11 (Operand.tmp 13) (Operand.tmp 14), none, []⟩ (fun x8 => [(15, .one (.eptr (Thing.cod.enc x8) 0))]) (fun x8 => []) (by kernel_rfl) (fun x8 hr => pOp_eff (by kernel_rfl) (by kernel_rfl) (eff_idx (c := Thing.cod) (l := a0) (k := .i64) (n := i6) (by kernel_rfl) (by kernel_rfl) (by kernel_rfl) hr)) (fun x8 => ?_))))))
      refine SimI.rd 4 [(19, qb (x8.ID != a1)), (18, qj a1), (17, qj x8.ID), (16, .one (.eptr (Thing.cod.enc x8) 0))] [] (.thenN (.cond (x8.ID != a1) (by kernel_rfl) ?_ ?_))
      · refine Sim.region0 (.rn 3 [(22, qj i6), (21, .one (vw Thing.cod a0)), (20, .one (.osl 100005 0 0 (l5).length))] [] (.bind (og := ix a0 i6) ⟨some 23, POp.iaddrS 11 (Operand.tmp 21) (Operand.tmp 22), none, []⟩ (fun x9 => [(23, .one (.eptr (Thing.cod.enc x9) 0))]) (fun x9 => []) (by kernel_rfl) (fun x9 hr => pOp_eff (by kernel_rfl) (by kernel_rfl) (eff_idx (c := Thing.cod) (l := a0) (k := .i64) (n := i6) (by kernel_rfl) (by kernel_rfl) (by kernel_rfl) hr)) (fun x9 => ?_)))
        refine SimI.rn 2 [(25, .one (vw Thing.cod [x9])), (24, .agg (Thing.cells x9))] [] (.guard (c := ((l5).length + 1) * 120 ≤ maxCells ∧ (l5).length + 1 ≤ maxCells) ⟨some 26, POp.app 100005 28 11 120 (Operand.tmp 20) (Operand.tmp 25), none, []⟩ [(26, .one (.osl 100005 (0 + 1) 0 ((l5 ++ [x9])).length))] [(100005, some (.arr 28 Thing.cod.sz (0 + 1) ((l5 ++ [x9])).length (getOf Thing.cod (l5 ++ [x9]))))] (by kernel_rfl) (fun hc => pOp_eff (by kernel_rfl) (by kernel_rfl) (eff_appO (c := Thing.cod) (g := 0) (l := l5) (a := x9) (by kernel_rfl) (by kernel_rfl) (by kernel_rfl) (by kernel_rfl) hc)) (.rd 1 [(5, .one (.osl 100005 (0 + 1) 0 ((l5 ++ [x9])).length))] [] (.blockN (.thenN (.region0 (.rd 3 [(6, qj (IntKind.wrap .i64 (i6 + 1))), (12, qj (IntKind.wrap .i64 (i6 + 1))), (11, qj i6)] [] (.loopN (.pr [0, 1, 5, 6] [100005] [(false, 5, 0, 100005, 28, 11)] [(0, .one (vw Thing.cod a0)), (1, qj a1), (5, .one (.osl 100005 0 0 ((l5 ++ [x9])).length)), (6, qj (IntKind.wrap .i64 (i6 + 1)))] [(100005, some (.arr 28 Thing.cod.sz 0 ((l5 ++ [x9])).length (getOf Thing.cod (l5 ++ [x9]))))] ?_))))))))
        exact ih_l7 (l5 ++ [x9]) (IntKind.wrap .i64 (i6 + 1))
      · refine Sim.skip (.blockN (.thenN (.region0 (.rd 3 [(6, qj (IntKind.wrap .i64 (i6 + 1))), (12, qj (IntKind.wrap .i64 (i6 + 1))), (11, qj i6)] [] (.loopN (.pr [0, 1, 5, 6] [100005] [(false, 5, 0, 100005, 28, 11)] [(0, .one (vw Thing.cod a0)), (1, qj a1), (5, .one (.osl 100005 0 0 (l5).length)), (6, qj (IntKind.wrap .i64 (i6 + 1)))] [(100005, some (.arr 28 Thing.cod.sz 0 (l5).length (getOf Thing.cod l5)))] ?_))))))
        exact ih_l7 l5 (IntKind.wrap .i64 (i6 + 1))
    · exact Sim.exit (.thenX (.loopX (.blockX (.thenN (.sr 2 [(4, .one (.osl 100005 0 0 (l5).length)), (27, .one (.osl 100005 0 0 (l5).length))] [] (.ret (.fin (out_of (os := []) (ress_cons (resOf_own (c := Thing.cod) (k := 100005) (g := 0) (el := 28) (l := l5) (by kernel_rfl) (by kernel_rfl) (by kernel_rfl)) (ress_nil)) (by kernel_rfl) rfl (by kernel_rfl)))))))))

def F93 (n : Nat) (a0 : (List Thing)) (a1 : Int) : Option (List Thing) :=
  F93_l7 n a0 a1 (n + 8) ([] : List Thing) 0
theorem F93_ok (n : Nat) (a0 : (List Thing)) (a1 : Int) : ∀ r, F93 n a0 a1 = some r → D 93 [.one (vw Thing.cod a0), .one (li .i64 a1)] [] = some (F93_e r) := by
  refine fn_to (D := D) (n := n + 8) (nt := 28) (rs := pc93_r) (c := pc93_c26) (L := [(0, .one (vw Thing.cod a0)), (1, qj a1)]) (M := []) (k := 0) rfl rfl rfl rfl rfl rfl rfl ?_
  unfold F93
  refine Sim.sr 1 [(4, .one (lnil))] [] (.sr 1 [(5, .one (lnil))] [] (.seq (.sr 1 [(6, qj 0)] [] (.block (.loop (.pr [0, 1, 5, 6] [100005] [(false, 5, 0, 100005, 28, 11)] [(0, .one (vw Thing.cod a0)), (1, qj a1), (5, .one (.osl 100005 0 0 (([] : List Thing)).length)), (6, qj 0)] [(100005, some (.arr 28 Thing.cod.sz 0 (([] : List Thing)).length (getOf Thing.cod ([] : List Thing))))] ?_))))))
  exact F93_l7_ok n a0 a1 (n + 8) ([] : List Thing) 0


-- 52: vedette/vedetteref15.Apply
def F52_e : ((List Thing) × Bool) → PV × List Ob := fun r => (.tup [.one (vw Thing.cod r.1), .one (lb r.2)], [])
def F52 (n : Nat) (a0 : (List Thing)) (a1 : Event) : Option ((List Thing) × Bool) :=
  (F90 n a0 a1.ID).bind fun (r1 : Int) =>
  (F53 n a1).bind fun (r2 : Bool) =>
  if !(r2) then
    some (a0, false)
  else
    if (decide ((0 : Int) ≤ r1)) == (a1.Kind == 1) then
      some (a0, false)
    else
      if a1.Kind == 1 then
        (F91 n a0 a1.Thing).bind fun (r3 : (List Thing)) =>
        some (r3, true)
      else
        if a1.Kind == 2 then
          (ix a0 r1).bind fun (x4 : Thing) =>
          (F92 n x4 a1.Delta).bind fun (r5 : Thing) =>
          (F91 n a0 r5).bind fun (r6 : (List Thing)) =>
          some (r6, true)
        else
          (F93 n a0 a1.ID).bind fun (r7 : (List Thing)) =>
          some (r7, true)
theorem F52_ok (n : Nat) (a0 : (List Thing)) (a1 : Event) : ∀ r, F52 n a0 a1 = some r → D 52 [.one (vw Thing.cod a0), .agg (Event.cells a1)] [] = some (F52_e r) := by
  refine fn_to (D := D) (n := n + 8) (nt := 46) (rs := pc52_r) (c := pc52_c32) (L := [(0, .one (vw Thing.cod a0)), (1, .agg (Event.cells a1))]) (M := []) (k := 0) rfl rfl rfl rfl rfl rfl rfl ?_
  unfold F52
  refine Sim.sr 3 [(5, qb false), (4, .one (lnil)), (3, qp 3 0)] [(3, some (.cells (Event.cells a1)))] (.st 3 [(9, qj a1.ID), (8, qp 3 1), (7, .one (vw Thing.cod a0))] [] (.cl 10 true [[(0, 11)], []] 90 [Operand.tmp 7, Operand.tmp 9] none (fun r1 => qj r1) [.one (vw Thing.cod a0), qj a1.ID] (F90_ok n a0 a1.ID) (fun r1 => ?_)))
  refine SimI.rd 1 [(6, qj r1)] [] (.thenN (.seq (.st 1 [(11, .agg (Event.cells a1))] [] (.cl 12 true [[]] 53 [Operand.tmp 11] none (fun r2 => qb r2) [.agg (Event.cells a1)] (F53_ok n a1) (fun r2 => ?_)))))
  refine SimI.rn 2 [(14, qb (!(r2))), (13, qb (!(r2)))] [] (.split 14 (!(r2)) (by kernel_rfl) ?_ ?_)
  · exact SimI.rd 7 [(21, qb true), (20, .tup []), (19, .tup []), (18, .tup []), (17, .tup []), (16, .tup []), (15, .tup [])] [] (.thenN (.condT (by kernel_rfl) (.sr 3 [(5, qb false), (4, .one (vw Thing.cod a0)), (22, .one (vw Thing.cod a0))] [] (.ret (.thenR .fn)))))
  · refine SimI.rd 7 [(21, qb ((decide ((0 : Int) ≤ r1)) == (a1.Kind == 1))), (20, qb ((decide ((0 : Int) ≤ r1)) == (a1.Kind == 1))), (19, qb (a1.Kind == 1)), (18, qj a1.Kind), (17, qp 3 0), (16, qb (decide ((0 : Int) ≤ r1))), (15, qj r1)] [] (.thenN (.cond ((decide ((0 : Int) ≤ r1)) == (a1.Kind == 1)) (by kernel_rfl) ?_ ?_))
    · exact Sim.sr 3 [(5, qb false), (4, .one (vw Thing.cod a0)), (22, .one (vw Thing.cod a0))] [] (.ret (.thenR .fn))
    · refine Sim.skip (.thenN (.seq (.sr 2 [(24, qj a1.Kind), (23, qp 3 0)] [] (.block (.sr 2 [(25, qb (a1.Kind == 1)), (26, qb (a1.Kind == 1))] [] (.cond (a1.Kind == 1) (by kernel_rfl) ?_ ?_))))))
      · refine Sim.st 3 [(29, .agg (Thing.cells a1.Thing)), (28, qp 3 2), (27, .one (vw Thing.cod a0))] [] (.cl 30 true [[(0, 11)], []] 91 [Operand.tmp 27, Operand.tmp 29] none (fun r3 => .one (vw Thing.cod r3)) [.one (vw Thing.cod a0), .agg (Thing.cells a1.Thing)] (F91_ok n a0 a1.Thing) (fun r3 => ?_))
        exact SimI.rd 2 [(5, qb true), (4, .one (vw Thing.cod r3))] [] (.thenN (.ret (.blockR (.thenR .fn))))
      · refine Sim.sr 2 [(31, qb (a1.Kind == 2)), (32, qb (a1.Kind == 2))] [] (.cond (a1.Kind == 2) (by kernel_rfl) ?_ ?_)
        · refine Sim.st 3 [(35, qj r1), (34, .one (vw Thing.cod a0)), (33, .one (vw Thing.cod a0))] [] (.bind (og := ix a0 r1) ⟨some 36, POp.iaddrS 11 (Operand.tmp 34) (Operand.tmp 35), none, [(34, Hint.imm), (35, Hint.imm)]⟩ (fun x4 => [(36, .one (.eptr (Thing.cod.enc x4) 0))]) (fun x4 => []) (by kernel_rfl) (fun x4 hr => pOp_eff (by kernel_rfl) (by kernel_rfl) (eff_idx (c := Thing.cod) (l := a0) (k := .i64) (n := r1) (by kernel_rfl) (by kernel_rfl) (by kernel_rfl) hr)) (fun x4 => ?_))
          refine SimI.rn 3 [(39, .agg (Delta.cells a1.Delta)), (38, qp 3 13), (37, .agg (Thing.cells x4))] [] (.bind (og := F92 n x4 a1.Delta) ⟨some 40, POp.call false [[], []] 92 [Operand.tmp 37, Operand.tmp 39], none, [(37, Hint.imm), (39, Hint.imm)]⟩ (fun r5 => [(40, .agg (Thing.cells r5))]) (fun r5 => []) (by kernel_rfl) (fun r5 hr => pOp_eff (by kernel_rfl) (by kernel_rfl) (eff_call (ARGS := [.agg (Thing.cells x4), .agg (Delta.cells a1.Delta)]) (by kernel_rfl) (args_clean (by kernel_rfl) (args_clean (by kernel_rfl) args_nil)) (F92_ok n x4 a1.Delta r5 hr) (by kernel_rfl))) (fun r5 => ?_))
          refine SimI.bind (og := F91 n a0 r5) ⟨some 41, POp.call false [[(0, 11)], []] 91 [Operand.tmp 33, Operand.tmp 40], none, [(33, Hint.imm), (40, Hint.imm)]⟩ (fun r6 => [(41, .one (vw Thing.cod r6))]) (fun r6 => []) (by kernel_rfl) (fun r6 hr => pOp_eff (by kernel_rfl) (by kernel_rfl) (eff_call (ARGS := [.one (vw Thing.cod a0), .agg (Thing.cells r5)]) (by kernel_rfl) (args_clean (by kernel_rfl) (args_clean (by kernel_rfl) args_nil)) (F91_ok n a0 r5 r6 hr) (by kernel_rfl))) (fun r6 => ?_)
          exact SimI.rd 2 [(5, qb true), (4, .one (vw Thing.cod r6))] [] (.thenN (.ret (.blockR (.thenR .fn))))
        · refine Sim.skip (.blockN (.thenN (.st 3 [(44, qj a1.ID), (43, qp 3 1), (42, .one (vw Thing.cod a0))] [] (.cl 45 true [[(0, 11)], []] 93 [Operand.tmp 42, Operand.tmp 44] none (fun r7 => .one (vw Thing.cod r7)) [.one (vw Thing.cod a0), qj a1.ID] (F93_ok n a0 a1.ID) (fun r7 => ?_)))))
          exact SimI.rd 2 [(5, qb true), (4, .one (vw Thing.cod r7))] [] (.thenN (.ret .fn))


-- 48: vedette/vedetteref15.Fold
def F48_e : ((List Thing) × Bool) → PV × List Ob := fun r => (.tup [.one (vw Thing.cod r.1), .one (lb r.2)], [])
def F48_l7 (n : Nat) (a0 : (List Thing)) (a1 : (List Event)) : Nat → (List Thing) → Int → Option ((List Thing) × Bool)
  | 0, _, _ => none
  | m + 1, l5, i6 =>
    if decide (i6 < ((a1).length : Int)) then
      (ix a1 i6).bind fun (x8 : Event) =>
      (F52 n l5 x8).bind fun (r9 : ((List Thing) × Bool)) =>
      if !(r9.2) then
        some (a0, false)
      else
        (F48_l7 n a0 a1 m) r9.1 (IntKind.wrap .i64 (i6 + 1))
    else
      some (l5, true)
theorem F48_l7_ok (n : Nat) (a0 : (List Thing)) (a1 : (List Event)) : ∀ (m : Nat) (l5 : (List Thing)) (i6 : Int), SimL Try.prog D (n + 8) m pc48_c23 [(0, .one (vw Thing.cod a0)), (1, .one (vw Event.cod a1)), (6, .one (vw Thing.cod l5)), (7, qj i6)] [] (F48_l7 n a0 a1 m l5 i6) (QB 0 (QT Try.prog D (n + 8) pc48_c29 (QF false pc48_r 0 F48_e))) := by
  intro m_l7
  induction m_l7 with
  | zero => intro l5 i6; exact SimL.zero'  rfl
  | succ m_l7 ih_l7 =>
    intro l5 i6
    refine SimL.succ ?_
    unfold F48_l7
    refine Sim.seq (.seq (.rg [(0, .one (vw Thing.cod a0)), (1, .one (vw Event.cod a1)), (6, .one (vw Thing.cod l5)), (7, qj i6)] [] (.rd 4 [(14, qb (decide (i6 < ((a1).length : Int)))), (13, qj ((a1).length : Int)), (12, .one (vw Event.cod a1)), (11, qj i6)] [] (.thenN (.cond (decide (i6 < ((a1).length : Int))) (by kernel_rfl) ?_ ?_)))))
    · refine Sim.skip (.thenN (.seq (.block (.st 3 [(20, qj i6), (19, .one (vw Event.cod a1)), (18, .one (vw Thing.cod l5))] [] (.bind (og := ix a1 i6) ⟨some 21, POp.iaddrS 25 (Operand.tmp 19) (Operand.tmp 20), none, []⟩ (fun x8 => [(21, .one (.eptr (Event.cod.enc x8) 0))]) (fun x8 => []) (by kernel_rfl) (fun x8 hr => pOp_eff (by kernel_rfl) (by kernel_rfl) (eff_idx (c := Event.cod) (l := a1) (k := .i64) (n := i6) (by kernel_rfl) (by kernel_rfl) (by kernel_rfl) hr)) (fun x8 => ?_))))))
      refine SimI.rn 1 [(22, .agg (Event.cells x8))] [] (.cl 23 true [[(0, 11)], []] 52 [Operand.tmp 18, Operand.tmp 22] none (fun r9 => .tup [.one (vw Thing.cod r9.1), qb r9.2]) [.one (vw Thing.cod l5), .agg (Event.cells x8)] (F52_ok n l5 x8) (fun r9 => ?_))
      refine SimI.rd 5 [(9, qb r9.2), (8, .one (vw Thing.cod r9.1)), (25, qb r9.2), (24, .one (vw Thing.cod r9.1)), (17, .tup [.one (vw Thing.cod r9.1), qb r9.2])] [] (.thenN (.seq (.sr 2 [(27, qb (!(r9.2))), (26, qb r9.2)] [] (.cond (!(r9.2)) (by kernel_rfl) ?_ ?_))))
      · exact Sim.sr 3 [(5, qb false), (4, .one (vw Thing.cod a0)), (28, .one (vw Thing.cod a0))] [] (.ret (.thenR (.blockR (.thenR (.loopR (.blockR (.thenR .fn)))))))
      · refine Sim.skip (.thenN (.region0 (.rd 2 [(6, .one (vw Thing.cod r9.1)), (29, .one (vw Thing.cod r9.1))] [] (.blockN (.thenN (.region0 (.rd 3 [(7, qj (IntKind.wrap .i64 (i6 + 1))), (16, qj (IntKind.wrap .i64 (i6 + 1))), (15, qj i6)] [] (.loopN (.pr [0, 1, 6, 7] [] [] [(0, .one (vw Thing.cod a0)), (1, .one (vw Event.cod a1)), (6, .one (vw Thing.cod r9.1)), (7, qj (IntKind.wrap .i64 (i6 + 1)))] [] ?_)))))))))
        exact ih_l7 r9.1 (IntKind.wrap .i64 (i6 + 1))
    · exact Sim.exit (.thenX (.loopX (.blockX (.thenN (.sr 3 [(5, qb true), (4, .one (vw Thing.cod l5)), (30, .one (vw Thing.cod l5))] [] (.ret .fn))))))

def F48 (n : Nat) (a0 : (List Thing)) (a1 : (List Event)) : Option ((List Thing) × Bool) :=
  F48_l7 n a0 a1 (n + 8) a0 0
theorem F48_ok (n : Nat) (a0 : (List Thing)) (a1 : (List Event)) : ∀ r, F48 n a0 a1 = some r → D 48 [.one (vw Thing.cod a0), .one (vw Event.cod a1)] [] = some (F48_e r) := by
  refine fn_to (D := D) (n := n + 8) (nt := 31) (rs := pc48_r) (c := pc48_c32) (L := [(0, .one (vw Thing.cod a0)), (1, .one (vw Event.cod a1))]) (M := []) (k := 0) rfl rfl rfl rfl rfl rfl rfl ?_
  unfold F48
  refine Sim.sr 2 [(5, qb false), (4, .one (lnil))] [] (.sr 2 [(6, .one (vw Thing.cod a0)), (10, .one (vw Thing.cod a0))] [] (.seq (.sr 1 [(7, qj 0)] [] (.block (.loop (.pr [0, 1, 6, 7] [] [] [(0, .one (vw Thing.cod a0)), (1, .one (vw Event.cod a1)), (6, .one (vw Thing.cod a0)), (7, qj 0)] [] ?_))))))
  exact F48_l7_ok n a0 a1 (n + 8) a0 0


-- 50: vedette/vedetteref15.Same
def F50_e : Bool → PV × List Ob := fun r => (.one (lb r), [])
def F50_l4 (n : Nat) (a0 : (List Event)) (a1 : (List Event)) : Nat → Int → Option Bool
  | 0, _ => none
  | m + 1, i3 =>
    if decide (i3 < ((a0).length : Int)) then
      (ix a0 i3).bind fun (x5 : Event) =>
      (ix a1 i3).bind fun (x6 : Event) =>
      if !(Event.eqb x5 x6) then
        some false
      else
        (F50_l4 n a0 a1 m) (IntKind.wrap .i64 (i3 + 1))
    else
      some true
theorem F50_l4_ok (n : Nat) (a0 : (List Event)) (a1 : (List Event)) : ∀ (m : Nat) (i3 : Int), SimL Try.prog D (n + 8) m pc50_c25 [(0, .one (vw Event.cod a0)), (1, .one (vw Event.cod a1)), (5, qj i3)] [] (F50_l4 n a0 a1 m i3) (QB 0 (QT Try.prog D (n + 8) pc50_c31 (QF false pc50_r 0 F50_e))) := by
  intro m_l4
  induction m_l4 with
  | zero => intro i3; exact SimL.zero'  rfl
  | succ m_l4 ih_l4 =>
    intro i3
    refine SimL.succ ?_
    unfold F50_l4
    refine Sim.seq (.seq (.rg [(0, .one (vw Event.cod a0)), (1, .one (vw Event.cod a1)), (5, qj i3)] [] (.rd 4 [(14, qb (decide (i3 < ((a0).length : Int)))), (13, qj ((a0).length : Int)), (12, .one (vw Event.cod a0)), (11, qj i3)] [] (.thenN (.cond (decide (i3 < ((a0).length : Int))) (by kernel_rfl) ?_ ?_)))))
    · refine Sim.skip (.thenN (.seq (.block (.st 2 [(18, qj i3), (17, .one (vw Event.cod a0))] [] (.bind (og := ix a0 i3) ⟨some 19, POp.iaddrS 25 (Operand.tmp 17) (Operand.tmp 18), none, [(17, Hint.imm), (18, Hint.imm)]⟩ (fun x5 => [(19, .one (.eptr (Event.cod.enc x5) 0))]) (fun x5 => []) (by kernel_rfl) (fun x5 hr => pOp_eff (by kernel_rfl) (by kernel_rfl) (eff_idx (c := Event.cod) (l := a0) (k := .i64) (n := i3) (by kernel_rfl) (by kernel_rfl) (by kernel_rfl) hr)) (fun x5 => ?_))))))
      refine SimI.rn 3 [(22, qj i3), (21, .one (vw Event.cod a1)), (20, .agg (Event.cells x5))] [] (.bind (og := ix a1 i3) ⟨some 23, POp.iaddrS 25 (Operand.tmp 21) (Operand.tmp 22), none, [(21, Hint.imm), (22, Hint.imm)]⟩ (fun x6 => [(23, .one (.eptr (Event.cod.enc x6) 0))]) (fun x6 => []) (by kernel_rfl) (fun x6 hr => pOp_eff (by kernel_rfl) (by kernel_rfl) (eff_idx (c := Event.cod) (l := a1) (k := .i64) (n := i3) (by kernel_rfl) (by kernel_rfl) (by kernel_rfl) hr)) (fun x6 => ?_))
      refine SimI.rn 1 [(24, .agg (Event.cells x6))] [] (.step ⟨some 25, POp.prim (Prim.bin BinOp.neq 67 false false) [Operand.tmp 20, Operand.tmp 24], none, [(20, Hint.imm), (24, Hint.imm)]⟩ [(25, qb (!(Event.eqb x5 x6)))] [] (by kernel_rfl) (pOp_eff (by kernel_rfl) (by kernel_rfl) (eff_prim (by kernel_rfl) (Event_eqn x5 x6 _ _))) (.dn (.thenN (.cond (!(Event.eqb x5 x6)) (by kernel_rfl) ?_ ?_))))
      · exact Sim.sr 1 [(4, qb false)] [] (.ret (.blockR (.thenR (.loopR (.blockR (.thenR .fn))))))
      · refine Sim.skip (.blockN (.thenN (.region0 (.rd 3 [(5, qj (IntKind.wrap .i64 (i3 + 1))), (16, qj (IntKind.wrap .i64 (i3 + 1))), (15, qj i3)] [] (.loopN (.pr [0, 1, 5] [] [] [(0, .one (vw Event.cod a0)), (1, .one (vw Event.cod a1)), (5, qj (IntKind.wrap .i64 (i3 + 1)))] [] ?_))))))
        exact ih_l4 (IntKind.wrap .i64 (i3 + 1))
    · exact Sim.exit (.thenX (.loopX (.blockX (.thenN (.sr 1 [(4, qb true)] [] (.ret .fn))))))

def F50 (n : Nat) (a0 : (List Event)) (a1 : (List Event)) : Option Bool :=
  if ((a0).length : Int) != ((a1).length : Int) then
    some false
  else
    F50_l4 n a0 a1 (n + 8) 0
theorem F50_ok (n : Nat) (a0 : (List Event)) (a1 : (List Event)) : ∀ r, F50 n a0 a1 = some r → D 50 [.one (vw Event.cod a0), .one (vw Event.cod a1)] [] = some (F50_e r) := by
  refine fn_to (D := D) (n := n + 8) (nt := 26) (rs := pc50_r) (c := pc50_c34) (L := [(0, .one (vw Event.cod a0)), (1, .one (vw Event.cod a1))]) (M := []) (k := 0) rfl rfl rfl rfl rfl rfl rfl ?_
  unfold F50
  refine Sim.sr 1 [(4, qb false)] [] (.seq (.sr 5 [(10, qb (((a0).length : Int) != ((a1).length : Int))), (9, qj ((a1).length : Int)), (8, .one (vw Event.cod a1)), (7, qj ((a0).length : Int)), (6, .one (vw Event.cod a0))] [] (.cond (((a0).length : Int) != ((a1).length : Int)) (by kernel_rfl) ?_ ?_)))
  · exact Sim.sr 1 [(4, qb false)] [] (.ret (.thenR .fn))
  · refine Sim.skip (.thenN (.seq (.sr 1 [(5, qj 0)] [] (.block (.loop (.pr [0, 1, 5] [] [] [(0, .one (vw Event.cod a0)), (1, .one (vw Event.cod a1)), (5, qj 0)] [] ?_))))))
    exact F50_l4_ok n a0 a1 (n + 8) 0


-- 10: vedette/vedettelaw15.EventTells
def F10_e : Bool → PV × List Ob := fun r => (.one (lb r), [])
def F10_l16 (n : Nat) (a0 : (List Thing)) (a1 : (List Event)) : Nat → Int → Option Bool
  | 0, _ => none
  | m + 1, i15 =>
    if decide (i15 < ((a1).length : Int)) then
      (ix a1 i15).bind fun (x17 : Event) =>
      (F51 n a0 x17).bind fun (r18 : ((List Thing) × Bool)) =>
      (ix a1 i15).bind fun (x19 : Event) =>
      (F52 n a0 x19).bind fun (r20 : ((List Thing) × Bool)) =>
      (ix a1 i15).bind fun (x21 : Event) =>
      (F39 n x21).bind fun (r22 : Bool) =>
      (ix a1 i15).bind fun (x23 : Event) =>
      (F53 n x23).bind fun (r24 : Bool) =>
      if !(r22 == r24) then
        some false
      else
        if !(r18.2 == r20.2) then
          some false
        else
          (F34 n r18.1 r20.1).bind fun (r25 : Bool) =>
          if !(r25) then
            some false
          else
            (F10_l16 n a0 a1 m) (IntKind.wrap .i64 (i15 + 1))
    else
      some true
theorem F10_l16_ok (n : Nat) (a0 : (List Thing)) (a1 : (List Event)) : ∀ (m : Nat) (i15 : Int), SimL Try.prog D (n + 8) m pc10_c47 [(0, .one (vw Thing.cod a0)), (1, .one (vw Event.cod a1)), (15, qj i15)] [] (F10_l16 n a0 a1 m i15) (QB 0 (QT Try.prog D (n + 8) pc10_c53 (QF false pc10_r 0 F10_e))) := by
  intro m_l16
  induction m_l16 with
  | zero => intro i15; exact SimL.zero'  rfl
  | succ m_l16 ih_l16 =>
    intro i15
    refine SimL.succ ?_
    unfold F10_l16
    refine Sim.seq (.seq (.rg [(0, .one (vw Thing.cod a0)), (1, .one (vw Event.cod a1)), (15, qj i15)] [] (.rd 4 [(93, qb (decide (i15 < ((a1).length : Int)))), (92, qj ((a1).length : Int)), (91, .one (vw Event.cod a1)), (90, qj i15)] [] (.thenN (.cond (decide (i15 < ((a1).length : Int))) (by kernel_rfl) ?_ ?_)))))
    · refine Sim.skip (.thenN (.seq (.block (.st 3 [(99, qj i15), (98, .one (vw Event.cod a1)), (97, .one (vw Thing.cod a0))] [] (.bind (og := ix a1 i15) ⟨some 100, POp.iaddrS 25 (Operand.tmp 98) (Operand.tmp 99), none, []⟩ (fun x17 => [(100, .one (.eptr (Event.cod.enc x17) 0))]) (fun x17 => []) (by kernel_rfl) (fun x17 hr => pOp_eff (by kernel_rfl) (by kernel_rfl) (eff_idx (c := Event.cod) (l := a1) (k := .i64) (n := i15) (by kernel_rfl) (by kernel_rfl) (by kernel_rfl) hr)) (fun x17 => ?_))))))
      refine SimI.rn 1 [(101, .agg (Event.cells x17))] [] (.cl 102 true [[(0, 11)], []] 51 [Operand.tmp 97, Operand.tmp 101] none (fun r18 => .tup [.one (vw Thing.cod r18.1), qb r18.2]) [.one (vw Thing.cod a0), .agg (Event.cells x17)] (F51_ok n a0 x17) (fun r18 => ?_))
      refine SimI.rd 5 [(17, qb r18.2), (16, .one (vw Thing.cod r18.1)), (104, qb r18.2), (103, .one (vw Thing.cod r18.1)), (96, .tup [.one (vw Thing.cod r18.1), qb r18.2])] [] (.thenN (.st 3 [(108, qj i15), (107, .one (vw Event.cod a1)), (106, .one (vw Thing.cod a0))] [] (.bind (og := ix a1 i15) ⟨some 109, POp.iaddrS 25 (Operand.tmp 107) (Operand.tmp 108), none, []⟩ (fun x19 => [(109, .one (.eptr (Event.cod.enc x19) 0))]) (fun x19 => []) (by kernel_rfl) (fun x19 hr => pOp_eff (by kernel_rfl) (by kernel_rfl) (eff_idx (c := Event.cod) (l := a1) (k := .i64) (n := i15) (by kernel_rfl) (by kernel_rfl) (by kernel_rfl) hr)) (fun x19 => ?_))))
      refine SimI.rn 1 [(110, .agg (Event.cells x19))] [] (.cl 111 true [[(0, 11)], []] 52 [Operand.tmp 106, Operand.tmp 110] none (fun r20 => .tup [.one (vw Thing.cod r20.1), qb r20.2]) [.one (vw Thing.cod a0), .agg (Event.cells x19)] (F52_ok n a0 x19) (fun r20 => ?_))
      refine SimI.rd 5 [(19, qb r20.2), (18, .one (vw Thing.cod r20.1)), (113, qb r20.2), (112, .one (vw Thing.cod r20.1)), (105, .tup [.one (vw Thing.cod r20.1), qb r20.2])] [] (.thenN (.st 2 [(115, qj i15), (114, .one (vw Event.cod a1))] [] (.bind (og := ix a1 i15) ⟨some 116, POp.iaddrS 25 (Operand.tmp 114) (Operand.tmp 115), none, [(114, Hint.imm), (115, Hint.imm)]⟩ (fun x21 => [(116, .one (.eptr (Event.cod.enc x21) 0))]) (fun x21 => []) (by kernel_rfl) (fun x21 hr => pOp_eff (by kernel_rfl) (by kernel_rfl) (eff_idx (c := Event.cod) (l := a1) (k := .i64) (n := i15) (by kernel_rfl) (by kernel_rfl) (by kernel_rfl) hr)) (fun x21 => ?_))))
      refine SimI.rn 1 [(117, .agg (Event.cells x21))] [] (.bind (og := F39 n x21) ⟨some 118, POp.call false [[]] 39 [Operand.tmp 117], none, [(117, Hint.imm)]⟩ (fun r22 => [(118, qb r22)]) (fun r22 => []) (by kernel_rfl) (fun r22 hr => pOp_eff (by kernel_rfl) (by kernel_rfl) (eff_call (ARGS := [.agg (Event.cells x21)]) (by kernel_rfl) (args_clean (by kernel_rfl) args_nil) (F39_ok n x21 r22 hr) (by kernel_rfl))) (fun r22 => ?_))
      refine SimI.rn 2 [(120, qj i15), (119, .one (vw Event.cod a1))] [] (.bind (og := ix a1 i15) ⟨some 121, POp.iaddrS 25 (Operand.tmp 119) (Operand.tmp 120), none, [(119, Hint.imm), (120, Hint.imm)]⟩ (fun x23 => [(121, .one (.eptr (Event.cod.enc x23) 0))]) (fun x23 => []) (by kernel_rfl) (fun x23 hr => pOp_eff (by kernel_rfl) (by kernel_rfl) (eff_idx (c := Event.cod) (l := a1) (k := .i64) (n := i15) (by kernel_rfl) (by kernel_rfl) (by kernel_rfl) hr)) (fun x23 => ?_))
      refine SimI.rn 1 [(122, .agg (Event.cells x23))] [] (.bind (og := F53 n x23) ⟨some 123, POp.call false [[]] 53 [Operand.tmp 122], none, [(122, Hint.imm)]⟩ (fun r24 => [(123, qb r24)]) (fun r24 => []) (by kernel_rfl) (fun r24 hr => pOp_eff (by kernel_rfl) (by kernel_rfl) (eff_call (ARGS := [.agg (Event.cells x23)]) (by kernel_rfl) (args_clean (by kernel_rfl) args_nil) (F53_ok n x23 r24 hr) (by kernel_rfl))) (fun r24 => ?_))
      refine SimI.rn 2 [(125, qb (!(r22 == r24))), (124, qb (!(r22 == r24)))] [] (.split 125 (!(r22 == r24)) (by kernel_rfl) ?_ ?_)
      · exact SimI.rd 10 [(135, qb true), (134, .tup []), (133, .tup []), (132, .tup []), (131, .tup []), (130, qb true), (129, qb true), (128, .tup []), (127, .tup []), (126, .tup [])] [] (.thenN (.condT (by kernel_rfl) (.sr 1 [(6, qb false)] [] (.ret (.blockR (.thenR (.loopR (.blockR (.thenR .fn)))))))))
      · refine SimI.rn 5 [(130, qb (!(r18.2 == r20.2))), (129, qb (!(r18.2 == r20.2))), (128, qb (!(r18.2 == r20.2))), (127, qb r20.2), (126, qb r18.2)] [] (.split 130 (!(r18.2 == r20.2)) (by kernel_rfl) ?_ ?_)
        · exact SimI.rd 5 [(135, qb true), (134, .tup []), (133, .tup []), (132, .tup []), (131, .tup [])] [] (.thenN (.condT (by kernel_rfl) (.sr 1 [(6, qb false)] [] (.ret (.blockR (.thenR (.loopR (.blockR (.thenR .fn)))))))))
        · refine SimI.rn 2 [(132, .one (vw Thing.cod r20.1)), (131, .one (vw Thing.cod r18.1))] [] (.bind (og := F34 n r18.1 r20.1) ⟨some 133, POp.call false [[(0, 11)], [(0, 11)]] 34 [Operand.tmp 131, Operand.tmp 132], some (130, false), [(131, Hint.imm), (132, Hint.imm)]⟩ (fun r25 => [(133, qb r25)]) (fun r25 => []) (by kernel_rfl) (fun r25 hr => pOp_eff (by kernel_rfl) (by kernel_rfl) (eff_call (ARGS := [.one (vw Thing.cod r18.1), .one (vw Thing.cod r20.1)]) (by kernel_rfl) (args_clean (by kernel_rfl) (args_clean (by kernel_rfl) args_nil)) (F34_ok n r18.1 r20.1 r25 hr) (by kernel_rfl))) (fun r25 => ?_))
          refine SimI.rd 2 [(135, qb (!(r25))), (134, qb (!(r25)))] [] (.thenN (.cond (!(r25)) (by kernel_rfl) ?_ ?_))
          · exact Sim.sr 1 [(6, qb false)] [] (.ret (.blockR (.thenR (.loopR (.blockR (.thenR .fn))))))
          · refine Sim.skip (.blockN (.thenN (.region0 (.rd 3 [(15, qj (IntKind.wrap .i64 (i15 + 1))), (95, qj (IntKind.wrap .i64 (i15 + 1))), (94, qj i15)] [] (.loopN (.pr [0, 1, 15] [] [] [(0, .one (vw Thing.cod a0)), (1, .one (vw Event.cod a1)), (15, qj (IntKind.wrap .i64 (i15 + 1)))] [] ?_))))))
            exact ih_l16 (IntKind.wrap .i64 (i15 + 1))
    · exact Sim.exit (.thenX (.loopX (.blockX (.thenN (.sr 1 [(6, qb true)] [] (.ret .fn))))))

def F10 (n : Nat) (a0 : (List Thing)) (a1 : (List Event)) (a2 : (List Event)) : Option Bool :=
  ((some true)).bind fun (r1 : Bool) =>
  if !(r1) then
    some false
  else
    (F43 n a0).bind fun (r2 : Bool) =>
    if !(r2) then
      some true
    else
      (F44 n a1).bind fun (r3 : Bool) =>
      if !(r3) then
        some true
      else
        (F44 n a2).bind fun (r4 : Bool) =>
        if !(r4) then
          some true
        else
          (F45 n a0).bind fun (r5 : Bool) =>
          if !(r5) then
            some true
          else
            (F46 n a1).bind fun (r6 : (ByteArray × Int)) =>
            (F47 n a1).bind fun (r7 : (ByteArray × Int)) =>
            (F40 n a0 a1).bind fun (r8 : ((List Thing) × Bool)) =>
            (F48 n a0 a1).bind fun (r9 : ((List Thing) × Bool)) =>
            if !(r6.1.toList == r7.1.toList) then
              some false
            else
              if r6.2 != r7.2 then
                some false
              else
                if !(r8.2 == r9.2) then
                  some false
                else
                  (F34 n r8.1 r9.1).bind fun (r10 : Bool) =>
                  if !(r10) then
                    some false
                  else
                    (F49 n a1 a2).bind fun (r11 : Bool) =>
                    (F50 n a1 a2).bind fun (r12 : Bool) =>
                    if !(r11 == r12) then
                      some false
                    else
                      F10_l16 n a0 a1 (n + 8) 0
theorem F10_ok (n : Nat) (a0 : (List Thing)) (a1 : (List Event)) (a2 : (List Event)) : ∀ r, F10 n a0 a1 a2 = some r → D 10 [.one (vw Thing.cod a0), .one (vw Event.cod a1), .one (vw Event.cod a2)] [] = some (F10_e r) := by
  refine fn_to (D := D) (n := n + 8) (nt := 136) (rs := pc10_r) (c := pc10_c62) (L := [(0, .one (vw Thing.cod a0)), (1, .one (vw Event.cod a1)), (2, .one (vw Event.cod a2))]) (M := []) (k := 0) rfl rfl rfl rfl rfl rfl rfl ?_
  unfold F10
  refine Sim.sr 1 [(6, qb false)] [] (.seq (.seq (.region0 (.cl 20 true [] 42 [] none (fun r1 => qb r1) [] (F42_ok n) (fun r1 => ?_)))))
  refine SimI.rd 1 [(21, qb (!(r1)))] [] (.thenN (.cond (!(r1)) (by kernel_rfl) ?_ ?_))
  · exact Sim.sr 1 [(6, qb false)] [] (.ret (.thenR .fn))
  · refine Sim.skip (.thenN (.seq (.st 1 [(22, .one (vw Thing.cod a0))] [] (.cl 23 true [[(0, 11)]] 43 [Operand.tmp 22] none (fun r2 => qb r2) [.one (vw Thing.cod a0)] (F43_ok n a0) (fun r2 => ?_)))))
    refine SimI.rn 2 [(25, qb (!(r2))), (24, qb (!(r2)))] [] (.split 25 (!(r2)) (by kernel_rfl) ?_ ?_)
    · exact SimI.rd 14 [(39, qb true), (38, .tup []), (37, .tup []), (36, .tup []), (35, qb true), (34, qb true), (33, .tup []), (32, .tup []), (31, .tup []), (30, qb true), (29, qb true), (28, .tup []), (27, .tup []), (26, .tup [])] [] (.thenN (.condT (by kernel_rfl) (.sr 1 [(6, qb true)] [] (.ret (.thenR .fn)))))
    · refine SimI.rn 1 [(26, .one (vw Event.cod a1))] [] (.cl 27 true [[(0, 25)]] 44 [Operand.tmp 26] (some (25, false)) (fun r3 => qb r3) [.one (vw Event.cod a1)] (F44_ok n a1) (fun r3 => ?_))
      refine SimI.rn 3 [(30, qb (!(r3))), (29, qb (!(r3))), (28, qb (!(r3)))] [] (.split 30 (!(r3)) (by kernel_rfl) ?_ ?_)
      · exact SimI.rd 9 [(39, qb true), (38, .tup []), (37, .tup []), (36, .tup []), (35, qb true), (34, qb true), (33, .tup []), (32, .tup []), (31, .tup [])] [] (.thenN (.condT (by kernel_rfl) (.sr 1 [(6, qb true)] [] (.ret (.thenR .fn)))))
      · refine SimI.rn 1 [(31, .one (vw Event.cod a2))] [] (.cl 32 true [[(0, 25)]] 44 [Operand.tmp 31] (some (30, false)) (fun r4 => qb r4) [.one (vw Event.cod a2)] (F44_ok n a2) (fun r4 => ?_))
        refine SimI.rn 3 [(35, qb (!(r4))), (34, qb (!(r4))), (33, qb (!(r4)))] [] (.split 35 (!(r4)) (by kernel_rfl) ?_ ?_)
        · exact SimI.rd 4 [(39, qb true), (38, .tup []), (37, .tup []), (36, .tup [])] [] (.thenN (.condT (by kernel_rfl) (.sr 1 [(6, qb true)] [] (.ret (.thenR .fn)))))
        · refine SimI.rn 1 [(36, .one (vw Thing.cod a0))] [] (.cl 37 true [[(0, 11)]] 45 [Operand.tmp 36] (some (35, false)) (fun r5 => qb r5) [.one (vw Thing.cod a0)] (F45_ok n a0) (fun r5 => ?_))
          refine SimI.rd 2 [(39, qb (!(r5))), (38, qb (!(r5)))] [] (.thenN (.cond (!(r5)) (by kernel_rfl) ?_ ?_))
          · exact Sim.sr 1 [(6, qb true)] [] (.ret (.thenR .fn))
          · refine Sim.skip (.thenN (.st 1 [(41, .one (vw Event.cod a1))] [] (.cl 42 true [[(0, 25)]] 46 [Operand.tmp 41] none (fun r6 => .tup [qs r6.1, qj r6.2]) [.one (vw Event.cod a1)] (F46_ok n a1) (fun r6 => ?_))))
            refine SimI.rd 5 [(8, qj r6.2), (7, qs r6.1), (44, qj r6.2), (43, qs r6.1), (40, .tup [qs r6.1, qj r6.2])] [] (.thenN (.st 1 [(46, .one (vw Event.cod a1))] [] (.cl 47 true [[(0, 25)]] 47 [Operand.tmp 46] none (fun r7 => .tup [qs r7.1, qj r7.2]) [.one (vw Event.cod a1)] (F47_ok n a1) (fun r7 => ?_))))
            refine SimI.rd 5 [(10, qj r7.2), (9, qs r7.1), (49, qj r7.2), (48, qs r7.1), (45, .tup [qs r7.1, qj r7.2])] [] (.thenN (.st 2 [(52, .one (vw Event.cod a1)), (51, .one (vw Thing.cod a0))] [] (.cl 53 true [[(0, 11)], [(0, 25)]] 40 [Operand.tmp 51, Operand.tmp 52] none (fun r8 => .tup [.one (vw Thing.cod r8.1), qb r8.2]) [.one (vw Thing.cod a0), .one (vw Event.cod a1)] (F40_ok n a0 a1) (fun r8 => ?_))))
            refine SimI.rd 5 [(12, qb r8.2), (11, .one (vw Thing.cod r8.1)), (55, qb r8.2), (54, .one (vw Thing.cod r8.1)), (50, .tup [.one (vw Thing.cod r8.1), qb r8.2])] [] (.thenN (.st 2 [(58, .one (vw Event.cod a1)), (57, .one (vw Thing.cod a0))] [] (.cl 59 true [[(0, 11)], [(0, 25)]] 48 [Operand.tmp 57, Operand.tmp 58] none (fun r9 => .tup [.one (vw Thing.cod r9.1), qb r9.2]) [.one (vw Thing.cod a0), .one (vw Event.cod a1)] (F48_ok n a0 a1) (fun r9 => ?_))))
            refine SimI.rd 5 [(14, qb r9.2), (13, .one (vw Thing.cod r9.1)), (61, qb r9.2), (60, .one (vw Thing.cod r9.1)), (56, .tup [.one (vw Thing.cod r9.1), qb r9.2])] [] (.thenN (.seq (.st 4 [(65, qb (!(r6.1.toList == r7.1.toList))), (64, qb (!(r6.1.toList == r7.1.toList))), (63, qs r7.1), (62, qs r6.1)] [] (.split 65 (!(r6.1.toList == r7.1.toList)) (by kernel_rfl) ?_ ?_))))
            · exact SimI.rd 24 [(89, qb true), (88, .tup []), (87, .tup []), (86, .tup []), (85, .tup []), (84, .tup []), (83, .tup []), (82, .tup []), (81, qb true), (80, qb true), (79, .tup []), (78, .tup []), (77, .tup []), (76, .tup []), (75, qb true), (74, qb true), (73, .tup []), (72, .tup []), (71, .tup []), (70, qb true), (69, qb true), (68, .tup []), (67, .tup []), (66, .tup [])] [] (.thenN (.condT (by kernel_rfl) (.sr 1 [(6, qb false)] [] (.ret (.thenR .fn)))))
            · refine SimI.rn 5 [(70, qb (r6.2 != r7.2)), (69, qb (r6.2 != r7.2)), (68, qb (r6.2 != r7.2)), (67, qj r7.2), (66, qj r6.2)] [] (.split 70 (r6.2 != r7.2) (by kernel_rfl) ?_ ?_)
              · exact SimI.rd 19 [(89, qb true), (88, .tup []), (87, .tup []), (86, .tup []), (85, .tup []), (84, .tup []), (83, .tup []), (82, .tup []), (81, qb true), (80, qb true), (79, .tup []), (78, .tup []), (77, .tup []), (76, .tup []), (75, qb true), (74, qb true), (73, .tup []), (72, .tup []), (71, .tup [])] [] (.thenN (.condT (by kernel_rfl) (.sr 1 [(6, qb false)] [] (.ret (.thenR .fn)))))
              · refine SimI.rn 5 [(75, qb (!(r8.2 == r9.2))), (74, qb (!(r8.2 == r9.2))), (73, qb (!(r8.2 == r9.2))), (72, qb r9.2), (71, qb r8.2)] [] (.split 75 (!(r8.2 == r9.2)) (by kernel_rfl) ?_ ?_)
                · exact SimI.rd 14 [(89, qb true), (88, .tup []), (87, .tup []), (86, .tup []), (85, .tup []), (84, .tup []), (83, .tup []), (82, .tup []), (81, qb true), (80, qb true), (79, .tup []), (78, .tup []), (77, .tup []), (76, .tup [])] [] (.thenN (.condT (by kernel_rfl) (.sr 1 [(6, qb false)] [] (.ret (.thenR .fn)))))
                · refine SimI.rn 2 [(77, .one (vw Thing.cod r9.1)), (76, .one (vw Thing.cod r8.1))] [] (.cl 78 true [[(0, 11)], [(0, 11)]] 34 [Operand.tmp 76, Operand.tmp 77] (some (75, false)) (fun r10 => qb r10) [.one (vw Thing.cod r8.1), .one (vw Thing.cod r9.1)] (F34_ok n r8.1 r9.1) (fun r10 => ?_))
                  refine SimI.rn 3 [(81, qb (!(r10))), (80, qb (!(r10))), (79, qb (!(r10)))] [] (.split 81 (!(r10)) (by kernel_rfl) ?_ ?_)
                  · exact SimI.rd 8 [(89, qb true), (88, .tup []), (87, .tup []), (86, .tup []), (85, .tup []), (84, .tup []), (83, .tup []), (82, .tup [])] [] (.thenN (.condT (by kernel_rfl) (.sr 1 [(6, qb false)] [] (.ret (.thenR .fn)))))
                  · refine SimI.rn 2 [(83, .one (vw Event.cod a2)), (82, .one (vw Event.cod a1))] [] (.cl 84 true [[(0, 25)], [(0, 25)]] 49 [Operand.tmp 82, Operand.tmp 83] (some (81, false)) (fun r11 => qb r11) [.one (vw Event.cod a1), .one (vw Event.cod a2)] (F49_ok n a1 a2) (fun r11 => ?_))
                    refine SimI.rn 2 [(86, .one (vw Event.cod a2)), (85, .one (vw Event.cod a1))] [] (.cl 87 true [[(0, 25)], [(0, 25)]] 50 [Operand.tmp 85, Operand.tmp 86] (some (81, false)) (fun r12 => qb r12) [.one (vw Event.cod a1), .one (vw Event.cod a2)] (F50_ok n a1 a2) (fun r12 => ?_))
                    refine SimI.rd 2 [(89, qb (!(r11 == r12))), (88, qb (!(r11 == r12)))] [] (.thenN (.cond (!(r11 == r12)) (by kernel_rfl) ?_ ?_))
                    · exact Sim.sr 1 [(6, qb false)] [] (.ret (.thenR .fn))
                    · refine Sim.skip (.thenN (.seq (.sr 1 [(15, qj 0)] [] (.block (.loop (.pr [0, 1, 15] [] [] [(0, .one (vw Thing.cod a0)), (1, .one (vw Event.cod a1)), (15, qj 0)] [] ?_))))))
                      exact F10_l16_ok n a0 a1 (n + 8) 0


end Go.Proofs.Ytobeamaaifgllaa
