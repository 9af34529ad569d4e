/-
  Functions of the program as functions of Lean. No condition.
-/
import Derived.Test.YtobeamaaifgllaaEventTellsE
namespace Go.Proofs.Ytobeamaaifgllaa
open Go Go.Rx
set_option maxRecDepth 100000
set_option linter.unusedVariables false
set_option linter.unusedSimpArgs false
set_option linter.unnecessarySimpa false
-- 34: vedette/vedetteref6.SameAll
def F34_e : Bool → PV × List Ob := fun r => (.one (lb r), [])
def F34_l4 (n : Nat) (a0 : (List Thing)) (a1 : (List Thing)) : Nat → Int → Option Bool
  | 0, _ => none
  | m + 1, i3 =>
    if decide (i3 < ((a0).length : Int)) then
      (ix a0 i3).bind fun (x5 : Thing) =>
      (ix a1 i3).bind fun (x6 : Thing) =>
      if !(Thing.eqb x5 x6) then
        some false
      else
        (F34_l4 n a0 a1 m) (IntKind.wrap .i64 (i3 + 1))
    else
      some true
theorem F34_l4_ok (n : Nat) (a0 : (List Thing)) (a1 : (List Thing)) : ∀ (m : Nat) (i3 : Int), SimL Try.prog D (n + 8) m pc34_c25 [(0, .one (vw Thing.cod a0)), (1, .one (vw Thing.cod a1)), (5, qj i3)] [] (F34_l4 n a0 a1 m i3) (QB 0 (QT Try.prog D (n + 8) pc34_c31 (QF false pc34_r 0 F34_e))) := by
  intro m_l4
  induction m_l4 with
  | zero => intro i3; exact SimL.zero'  rfl
  | succ m_l4 ih_l4 =>
    intro i3
    refine SimL.succ ?_
    unfold F34_l4
    refine Sim.seq (.seq (.rg [(0, .one (vw Thing.cod a0)), (1, .one (vw Thing.cod a1)), (5, qj i3)] [] (.rd 4 [(14, qb (decide (i3 < ((a0).length : Int)))), (13, qj ((a0).length : Int)), (12, .one (vw Thing.cod a0)), (11, qj i3)] [] (.thenN (.cond (decide (i3 < ((a0).length : Int))) (by kernel_rfl) ?_ ?_)))))
    · refine Sim.skip (.thenN (.seq (.block (.st 2 [(18, qj i3), (17, .one (vw Thing.cod a0))] [] (.bind (og := ix a0 i3) ⟨some 19, POp.iaddrS 11 (Operand.tmp 17) (Operand.tmp 18), none, [(17, Hint.imm), (18, Hint.imm)]⟩ (fun x5 => [(19, .one (.eptr (Thing.cod.enc x5) 0))]) (fun x5 => []) (by kernel_rfl) (fun x5 hr => pOp_eff (by kernel_rfl) (by kernel_rfl) (eff_idx (c := Thing.cod) (l := a0) (k := .i64) (n := i3) (by kernel_rfl) (by kernel_rfl) (by kernel_rfl) hr)) (fun x5 => ?_))))))
      refine SimI.rn 3 [(22, qj i3), (21, .one (vw Thing.cod a1)), (20, .agg (Thing.cells x5))] [] (.bind (og := ix a1 i3) ⟨some 23, POp.iaddrS 11 (Operand.tmp 21) (Operand.tmp 22), none, [(21, Hint.imm), (22, Hint.imm)]⟩ (fun x6 => [(23, .one (.eptr (Thing.cod.enc x6) 0))]) (fun x6 => []) (by kernel_rfl) (fun x6 hr => pOp_eff (by kernel_rfl) (by kernel_rfl) (eff_idx (c := Thing.cod) (l := a1) (k := .i64) (n := i3) (by kernel_rfl) (by kernel_rfl) (by kernel_rfl) hr)) (fun x6 => ?_))
      refine SimI.rn 1 [(24, .agg (Thing.cells x6))] [] (.step ⟨some 25, POp.prim (Prim.bin BinOp.neq 28 false false) [Operand.tmp 20, Operand.tmp 24], none, [(20, Hint.imm), (24, Hint.imm)]⟩ [(25, qb (!(Thing.eqb x5 x6)))] [] (by kernel_rfl) (pOp_eff (by kernel_rfl) (by kernel_rfl) (eff_prim (by kernel_rfl) (Thing_eqn x5 x6 _ _))) (.dn (.thenN (.cond (!(Thing.eqb x5 x6)) (by kernel_rfl) ?_ ?_))))
      · exact Sim.sr 1 [(4, qb false)] [] (.ret (.blockR (.thenR (.loopR (.blockR (.thenR .fn))))))
      · refine Sim.skip (.blockN (.thenN (.region0 (.rd 3 [(5, qj (IntKind.wrap .i64 (i3 + 1))), (16, qj (IntKind.wrap .i64 (i3 + 1))), (15, qj i3)] [] (.loopN (.pr [0, 1, 5] [] [] [(0, .one (vw Thing.cod a0)), (1, .one (vw Thing.cod a1)), (5, qj (IntKind.wrap .i64 (i3 + 1)))] [] ?_))))))
        exact ih_l4 (IntKind.wrap .i64 (i3 + 1))
    · exact Sim.exit (.thenX (.loopX (.blockX (.thenN (.sr 1 [(4, qb true)] [] (.ret .fn))))))

def F34 (n : Nat) (a0 : (List Thing)) (a1 : (List Thing)) : Option Bool :=
  if ((a0).length : Int) != ((a1).length : Int) then
    some false
  else
    F34_l4 n a0 a1 (n + 8) 0
theorem F34_ok (n : Nat) (a0 : (List Thing)) (a1 : (List Thing)) : ∀ r, F34 n a0 a1 = some r → D 34 [.one (vw Thing.cod a0), .one (vw Thing.cod a1)] [] = some (F34_e r) := by
  refine fn_to (D := D) (n := n + 8) (nt := 26) (rs := pc34_r) (c := pc34_c34) (L := [(0, .one (vw Thing.cod a0)), (1, .one (vw Thing.cod a1))]) (M := []) (k := 0) rfl rfl rfl rfl rfl rfl rfl ?_
  unfold F34
  refine Sim.sr 1 [(4, qb false)] [] (.seq (.sr 5 [(10, qb (((a0).length : Int) != ((a1).length : Int))), (9, qj ((a1).length : Int)), (8, .one (vw Thing.cod a1)), (7, qj ((a0).length : Int)), (6, .one (vw Thing.cod a0))] [] (.cond (((a0).length : Int) != ((a1).length : Int)) (by kernel_rfl) ?_ ?_)))
  · exact Sim.sr 1 [(4, qb false)] [] (.ret (.thenR .fn))
  · refine Sim.skip (.thenN (.seq (.sr 1 [(5, qj 0)] [] (.block (.loop (.pr [0, 1, 5] [] [] [(0, .one (vw Thing.cod a0)), (1, .one (vw Thing.cod a1)), (5, qj 0)] [] ?_))))))
    exact F34_l4_ok n a0 a1 (n + 8) 0


-- 67: vedette/geom.On
def F67_e : Bool → PV × List Ob := fun r => (.one (lb r), [])
def F67 (n : Nat) (a0 : Point) : Option Bool :=
  if decide ((0 : Int) ≤ a0.X) then
    if decide (a0.X < 64) then
      if decide ((0 : Int) ≤ a0.Y) then
        some (decide (a0.Y < 64))
      else
        some false
    else
      some false
  else
    some false
theorem F67_ok (n : Nat) (a0 : Point) : ∀ r, F67 n a0 = some r → D 67 [.agg [li .i64 a0.X, li .i64 a0.Y]] [] = some (F67_e r) := by
  refine fn_to (D := D) (n := n + 8) (nt := 21) (rs := pc67_r) (c := pc67_c5) (L := [(0, .agg [lj a0.X, lj a0.Y])]) (M := []) (k := 0) rfl rfl rfl rfl rfl rfl rfl ?_
  unfold F67
  refine Sim.sr 2 [(2, qb false), (1, qp 1 0)] [(1, some (.cells [lj a0.X, lj a0.Y]))] (.st 4 [(6, qb (decide ((0 : Int) ≤ a0.X))), (5, qb (decide ((0 : Int) ≤ a0.X))), (4, qj a0.X), (3, qp 1 0)] [] (.split 6 (decide ((0 : Int) ≤ a0.X)) (by kernel_rfl) ?_ ?_))
  · refine SimI.rn 5 [(11, qb (decide (a0.X < 64))), (10, qb (decide (a0.X < 64))), (9, qb (decide (a0.X < 64))), (8, qj a0.X), (7, qp 1 0)] [] (.split 11 (decide (a0.X < 64)) (by kernel_rfl) ?_ ?_)
    · refine SimI.rn 5 [(16, qb (decide ((0 : Int) ≤ a0.Y))), (15, qb (decide ((0 : Int) ≤ a0.Y))), (14, qb (decide ((0 : Int) ≤ a0.Y))), (13, qj a0.Y), (12, qp 1 1)] [] (.split 16 (decide ((0 : Int) ≤ a0.Y)) (by kernel_rfl) ?_ ?_)
      · exact SimI.rd 5 [(2, qb (decide (a0.Y < 64))), (20, qb (decide (a0.Y < 64))), (19, qb (decide (a0.Y < 64))), (18, qj a0.Y), (17, qp 1 1)] [] (.thenN (.ret .fn))
      · exact SimI.rd 5 [(2, qb false), (20, qb false), (19, .tup []), (18, .tup []), (17, .tup [])] [] (.thenN (.ret .fn))
    · exact SimI.rd 10 [(2, qb false), (20, qb false), (19, .tup []), (18, .tup []), (17, .tup []), (16, qb false), (15, qb false), (14, .tup []), (13, .tup []), (12, .tup [])] [] (.thenN (.ret .fn))
  · exact SimI.rd 15 [(2, qb false), (20, qb false), (19, .tup []), (18, .tup []), (17, .tup []), (16, qb false), (15, qb false), (14, .tup []), (13, .tup []), (12, .tup []), (11, qb false), (10, qb false), (9, .tup []), (8, .tup []), (7, .tup [])] [] (.thenN (.ret .fn))


-- 70: vedette/fields.IsField
def F70_e : Bool → PV × List Ob := fun r => (.one (lb r), [])
def F70 (n : Nat) (a0 : Field) : Option Bool :=
  if a0.N == 0 then
    some (decide ((a0.Text.size : Int) ≤ 12))
  else
    if a0.Text.toList == ByteArray.empty.toList then
      some (decide ((a0.Text.size : Int) ≤ 12))
    else
      some false
theorem F70_ok (n : Nat) (a0 : Field) : ∀ r, F70 n a0 = some r → D 70 [.agg [li .i64 a0.N, ls a0.Text]] [] = some (F70_e r) := by
  refine fn_to (D := D) (n := n + 8) (nt := 17) (rs := pc70_r) (c := pc70_c5) (L := [(0, .agg [lj a0.N, ls a0.Text])]) (M := []) (k := 0) rfl rfl rfl rfl rfl rfl rfl ?_
  unfold F70
  refine Sim.sr 2 [(2, qb false), (1, qp 1 0)] [(1, some (.cells [lj a0.N, ls a0.Text]))] (.st 4 [(6, qb (a0.N == 0)), (5, qb (a0.N == 0)), (4, qj a0.N), (3, qp 1 0)] [] (.split 6 (a0.N == 0) (by kernel_rfl) ?_ ?_))
  · exact SimI.rd 11 [(2, qb (decide ((a0.Text.size : Int) ≤ 12))), (16, qb (decide ((a0.Text.size : Int) ≤ 12))), (15, qb (decide ((a0.Text.size : Int) ≤ 12))), (14, qj (a0.Text.size : Int)), (13, qs a0.Text), (12, qp 1 1), (11, qb true), (10, qb true), (9, .tup []), (8, .tup []), (7, .tup [])] [] (.thenN (.ret .fn))
  · refine SimI.rn 5 [(11, qb (a0.Text.toList == be.toList)), (10, qb (a0.Text.toList == be.toList)), (9, qb (a0.Text.toList == be.toList)), (8, qs a0.Text), (7, qp 1 1)] [] (.split 11 (a0.Text.toList == be.toList) (by kernel_rfl) ?_ ?_)
    · exact SimI.rd 6 [(2, qb (decide ((a0.Text.size : Int) ≤ 12))), (16, qb (decide ((a0.Text.size : Int) ≤ 12))), (15, qb (decide ((a0.Text.size : Int) ≤ 12))), (14, qj (a0.Text.size : Int)), (13, qs a0.Text), (12, qp 1 1)] [] (.thenN (.ret .fn))
    · exact SimI.rd 6 [(2, qb false), (16, qb false), (15, .tup []), (14, .tup []), (13, .tup []), (12, .tup [])] [] (.thenN (.ret .fn))


-- 69: vedette/thing.Is$1
def F69_e : Bool → PV × List Ob := fun r => (.one (lb r), [])
def F69 (n : Nat) (a0 : Field) : Option Bool :=
  (F70 n a0).bind fun (r1 : Bool) =>
  some (!(r1))
theorem F69_ok (n : Nat) (a0 : Field) : ∀ r, F69 n a0 = some r → D 69 [.agg [li .i64 a0.N, ls a0.Text]] [] = some (F69_e r) := by
  refine fn_to (D := D) (n := n + 8) (nt := 6) (rs := pc69_r) (c := pc69_c5) (L := [(0, .agg [lj a0.N, ls a0.Text])]) (M := []) (k := 0) rfl rfl rfl rfl rfl rfl rfl ?_
  unfold F69
  refine Sim.sr 2 [(2, qb false), (1, qp 1 0)] [(1, some (.cells [lj a0.N, ls a0.Text]))] (.st 1 [(3, .agg [lj a0.N, ls a0.Text])] [] (.cl 4 true [[]] 70 [Operand.tmp 3] none (fun r1 => qb r1) [.agg [lj a0.N, ls a0.Text]] (F70_ok n a0) (fun r1 => ?_)))
  exact SimI.rd 2 [(2, qb (!(r1))), (5, qb (!(r1)))] [] (.thenN (.ret .fn))


-- 103: slices.IndexFunc[[]vedette/api.Field,vedette/api.Field]
def F103s0_e (a0 : (List Field)) : Int → PV × List Ob := fun r => (.one (li .i64 r), [])
def F103s0_l4 (n : Nat) (a0 : (List Field)) : Nat → Int → Option Int
  | 0, _ => none
  | m + 1, i3 =>
    if decide (i3 < ((a0).length : Int)) then
      (ix a0 i3).bind fun (x5 : Field) =>
      (F69 n x5).bind fun (r6 : Bool) =>
      if r6 then
        some i3
      else
        (F103s0_l4 n a0 m) (IntKind.wrap .i64 (i3 + 1))
    else
      some (-1)
theorem F103s0_l4_ok (n : Nat) (a0 : (List Field)) : ∀ (m : Nat) (i3 : Int), SimL Try.prog D (n + 8) m pc103_c20 [(0, .one (vw Field.cod a0)), (1, .one (.val (.func (.func 69) #[] #[]))), (7, qj ((a0).length : Int)), (8, qj i3)] [] (F103s0_l4 n a0 m i3) (QB 0 (QT Try.prog D (n + 8) pc103_c26 (QF false pc103_r 0 (F103s0_e a0)))) := by
  intro m_l4
  induction m_l4 with
  | zero => intro i3; exact SimL.zero'  rfl
  | succ m_l4 ih_l4 =>
    intro i3
    refine SimL.succ ?_
    unfold F103s0_l4
    refine Sim.seq (.rg [(0, .one (vw Field.cod a0)), (1, .one (.val (.func (.func 69) #[] #[]))), (7, qj ((a0).length : Int)), (8, qj i3)] [] (.rd 1 [(9, qb (decide (i3 < ((a0).length : Int))))] [] (.thenN (.seq (.cond (decide (i3 < ((a0).length : Int))) (by kernel_rfl) ?_ ?_)))))
    · refine Sim.skip (.thenN (.seq (.block (.sr 2 [(5, qj i3), (10, qj i3)] [] (.st 3 [(13, qj i3), (12, .one (vw Field.cod a0)), (11, .one (.val (.func (.func 69) #[] #[])))] [] (.bind (og := ix a0 i3) ⟨some 14, POp.iaddrS 2 (Operand.tmp 12) (Operand.tmp 13), none, []⟩ (fun x5 => [(14, .one (.eptr (Field.cod.enc x5) 0))]) (fun x5 => []) (by kernel_rfl) (fun x5 hr => pOp_eff (by kernel_rfl) (by kernel_rfl) (eff_idx (c := Field.cod) (l := a0) (k := .i64) (n := i3) (by kernel_rfl) (by kernel_rfl) (by kernel_rfl) hr)) (fun x5 => ?_)))))))
      refine SimI.rn 1 [(15, .agg [lj x5.N, ls x5.Text])] [] (.bind (og := F69 n x5) ⟨some 16, POp.callv true [[]] (Operand.tmp 11) [Operand.tmp 15], none, []⟩ (fun r6 => [(16, qb r6)]) (fun r6 => []) (by kernel_rfl) (fun r6 hr => pOp_eff (by kernel_rfl) (by kernel_rfl) (eff_callvv (by kernel_rfl) (ARGS := [.agg [lj x5.N, ls x5.Text]]) (by kernel_rfl) (args_clean (by kernel_rfl) args_nil) (F69_ok n x5 r6 hr) (by kernel_rfl))) (fun r6 => ?_))
      refine SimI.dn (.thenN (.cond r6 (by kernel_rfl) ?_ ?_))
      · exact Sim.sr 2 [(4, qj i3), (17, qj i3)] [] (.ret (.blockR (.thenR (.loopR (.blockR (.thenR .fn))))))
      · refine Sim.skip (.blockN (.thenN (.region0 (.rd 2 [(8, qj (IntKind.wrap .i64 (i3 + 1))), (18, qj (IntKind.wrap .i64 (i3 + 1)))] [] (.loopN (.pr [0, 1, 7, 8] [] [] [(0, .one (vw Field.cod a0)), (1, .one (.val (.func (.func 69) #[] #[]))), (7, qj ((a0).length : Int)), (8, qj (IntKind.wrap .i64 (i3 + 1)))] [] ?_))))))
        exact ih_l4 (IntKind.wrap .i64 (i3 + 1))
    · exact Sim.exit (.thenX (.loopX (.blockX (.thenN (.sr 1 [(4, qj (-1))] [] (.ret .fn))))))

def F103s0 (n : Nat) (a0 : (List Field)) : Option Int :=
  F103s0_l4 n a0 (n + 8) 0
theorem F103s0_ok (n : Nat) (a0 : (List Field)) : ∀ r, F103s0 n a0 = some r → D 103 [.one (vw Field.cod a0), .one (.val (.func (.func 69) #[] #[]))] [] = some ((F103s0_e a0) r) := by
  refine fn_to (D := D) (n := n + 8) (nt := 19) (rs := pc103_r) (c := pc103_c28) (L := [(0, .one (vw Field.cod a0)), (1, .one (.val (.func (.func 69) #[] #[])))]) (M := []) (k := 0) rfl rfl rfl rfl rfl rfl rfl ?_
  unfold F103s0
  refine Sim.sr 1 [(4, qj 0)] [] (.seq (.sr 3 [(8, qj 0), (7, qj ((a0).length : Int)), (6, .one (vw Field.cod a0))] [] (.block (.loop (.pr [0, 1, 7, 8] [] [] [(0, .one (vw Field.cod a0)), (1, .one (.val (.func (.func 69) #[] #[]))), (7, qj ((a0).length : Int)), (8, qj 0)] [] ?_)))))
  exact F103s0_l4_ok n a0 (n + 8) 0


-- 68: slices.ContainsFunc[[]vedette/api.Field,vedette/api.Field]
def F68s0_e (a0 : (List Field)) : Bool → PV × List Ob := fun r => (.one (lb r), [])
def F68s0 (n : Nat) (a0 : (List Field)) : Option Bool :=
  (F103s0 n a0).bind fun (r1 : Int) =>
  some (decide ((0 : Int) ≤ r1))
theorem F68s0_ok (n : Nat) (a0 : (List Field)) : ∀ r, F68s0 n a0 = some r → D 68 [.one (vw Field.cod a0), .one (.val (.func (.func 69) #[] #[]))] [] = some ((F68s0_e a0) r) := by
  refine fn_to (D := D) (n := n + 8) (nt := 9) (rs := pc68_r) (c := pc68_c5) (L := [(0, .one (vw Field.cod a0)), (1, .one (.val (.func (.func 69) #[] #[])))]) (M := []) (k := 0) rfl rfl rfl rfl rfl rfl rfl ?_
  unfold F68s0
  refine Sim.sr 1 [(4, qb false)] [] (.st 2 [(6, .one (.val (.func (.func 69) #[] #[]))), (5, .one (vw Field.cod a0))] [] (.bind (og := F103s0 n a0) ⟨some 7, POp.gcall false false [300000, 300001, 300002, 300003, 300004, 300005, 300006, 300007] [[(0, 2)], []] 103 [Operand.tmp 5, Operand.tmp 6], none, []⟩ (fun r1 => [(7, qj r1)]) (fun r1 => []) (by kernel_rfl) (fun r1 hr => pOp_eff (by kernel_rfl) (by kernel_rfl) (eff_gcall (ks := []) (rks := []) (new := []) (ARGS := [.one (vw Field.cod a0), .one (.val (.func (.func 69) #[] #[]))]) (args1 := [.one (vw Field.cod a0), .one (.val (.func (.func 69) #[] #[]))]) (args2 := [.one (vw Field.cod a0), .one (.val (.func (.func 69) #[] #[]))]) (os := []) (os' := []) (os1 := []) (res := qj r1) (res1 := qj r1) (r := qj r1) (N := []) (by kernel_rfl) (readA_ow (readA_keep (by kernel_rfl) (readA_keep (by kernel_rfl) (readA_nil)))) (by kernel_rfl) (by kernel_rfl) (by kernel_rfl) (by kernel_rfl) (F103s0_ok n a0 r1 hr) (by kernel_rfl) (by kernel_rfl) (by kernel_rfl) rfl (by kernel_rfl) (by kernel_rfl) (by kernel_rfl))) (fun r1 => ?_)))
  exact SimI.rd 2 [(4, qb (decide ((0 : Int) ≤ r1))), (8, qb (decide ((0 : Int) ≤ r1)))] [] (.thenN (.ret .fn))


-- 24: vedette/thing.Is
def F24_e : Bool → PV × List Ob := fun r => (.one (lb r), [])
def F24 (n : Nat) (a0 : Thing) : Option Bool :=
  if decide ((0 : Int) ≤ a0.ID) then
    if decide (a0.ID ≤ 1000000) then
      (F67 n a0.At).bind fun (r1 : Bool) =>
      if r1 then
        (F68s0 n [a0.F.a0, a0.F.a1, a0.F.a2, a0.F.a3]).bind fun (r2 : Bool) =>
        some (!(r2))
      else
        some false
    else
      some false
  else
    some false
theorem F24_ok (n : Nat) (a0 : Thing) : ∀ r, F24 n a0 = some r → D 24 [.agg (Thing.cells a0)] [] = some (F24_e r) := by
  refine fn_to (D := D) (n := n + 8) (nt := 22) (rs := pc24_r) (c := pc24_c5) (L := [(0, .agg (Thing.cells a0))]) (M := []) (k := 0) rfl rfl rfl rfl rfl rfl rfl ?_
  unfold F24
  refine Sim.sr 2 [(2, qb false), (1, qp 1 0)] [(1, some (.cells (Thing.cells a0)))] (.st 4 [(6, qb (decide ((0 : Int) ≤ a0.ID))), (5, qb (decide ((0 : Int) ≤ a0.ID))), (4, qj a0.ID), (3, qp 1 0)] [] (.split 6 (decide ((0 : Int) ≤ a0.ID)) (by kernel_rfl) ?_ ?_))
  · refine SimI.rn 5 [(11, qb (decide (a0.ID ≤ 1000000))), (10, qb (decide (a0.ID ≤ 1000000))), (9, qb (decide (a0.ID ≤ 1000000))), (8, qj a0.ID), (7, qp 1 0)] [] (.split 11 (decide (a0.ID ≤ 1000000)) (by kernel_rfl) ?_ ?_)
    · refine SimI.rn 2 [(13, .agg [lj a0.At.X, lj a0.At.Y]), (12, qp 1 1)] [] (.cl 14 true [[]] 67 [Operand.tmp 13] (some (11, true)) (fun r1 => qb r1) [.agg [lj a0.At.X, lj a0.At.Y]] (F67_ok n a0.At) (fun r1 => ?_))
      refine SimI.rn 2 [(16, qb r1), (15, qb r1)] [] (.split 16 r1 (by kernel_rfl) ?_ ?_)
      · refine SimI.rn 2 [(18, .one (.csl 1 2 3 4)), (17, qp 1 3)] [] (.bind (og := F68s0 n [a0.F.a0, a0.F.a1, a0.F.a2, a0.F.a3]) ⟨some 19, POp.gcall false false [1, 300000, 300001, 300002, 300003, 300004, 300005, 300006, 300007] [[(0, 2)], []] 68 [Operand.tmp 18, Operand.func 69], some (16, true), []⟩ (fun r2 => [(19, qb r2)]) (fun r2 => []) (by kernel_rfl) (fun r2 hr => pOp_eff (by kernel_rfl) (by kernel_rfl) (eff_gcall (ks := []) (rks := [1]) (new := []) (ARGS := [.one (.csl 1 2 3 4), .one (.val (.func (.func 69) #[] #[]))]) (args1 := [.one (vw Field.cod [a0.F.a0, a0.F.a1, a0.F.a2, a0.F.a3]), .one (.val (.func (.func 69) #[] #[]))]) (args2 := [.one (vw Field.cod [a0.F.a0, a0.F.a1, a0.F.a2, a0.F.a3]), .one (.val (.func (.func 69) #[] #[]))]) (os := []) (os' := []) (os1 := []) (res := qb r2) (res1 := qb r2) (r := qb r2) (N := []) (by kernel_rfl) (readA_ow (readA_csl (c := Field.cod) (k := 1) (off := 3) (cs := (Thing.cells a0)) (l := [a0.F.a0, a0.F.a1, a0.F.a2, a0.F.a3]) (by kernel_rfl) (by kernel_rfl) (by kernel_rfl) (by kernel_rfl) (readA_keep (by kernel_rfl) (readA_nil)))) (by kernel_rfl) (by kernel_rfl) (by kernel_rfl) (by kernel_rfl) (F68s0_ok n [a0.F.a0, a0.F.a1, a0.F.a2, a0.F.a3] r2 hr) (by kernel_rfl) (by kernel_rfl) (by kernel_rfl) rfl (by kernel_rfl) (by kernel_rfl) (by kernel_rfl))) (fun r2 => ?_))
        exact SimI.rd 3 [(2, qb (!(r2))), (21, qb (!(r2))), (20, qb (!(r2)))] [] (.thenN (.ret .fn))
      · exact SimI.rd 6 [(2, qb false), (21, qb false), (20, .tup []), (19, .tup []), (18, .tup []), (17, .tup [])] [] (.thenN (.ret .fn))
    · exact SimI.rd 11 [(2, qb false), (21, qb false), (20, .tup []), (19, .tup []), (18, .tup []), (17, .tup []), (16, qb false), (15, qb false), (14, .tup []), (13, .tup []), (12, .tup [])] [] (.thenN (.ret .fn))
  · exact SimI.rd 16 [(2, qb false), (21, qb false), (20, .tup []), (19, .tup []), (18, .tup []), (17, .tup []), (16, qb false), (15, qb false), (14, .tup []), (13, .tup []), (12, .tup []), (11, qb false), (10, qb false), (9, .tup []), (8, .tup []), (7, .tup [])] [] (.thenN (.ret .fn))


-- 99: vedette/fields.has
def F99_e : Bool → PV × List Ob := fun r => (.one (lb r), [])
def F99 (n : Nat) (a0 : Int) (a1 : Int) : Option Bool :=
  if ¬ (IntKind.wrap .i64 (a1 + 1) < 0) then
    some ((bitsI .and .u8 (shrI .u8 a0 (IntKind.wrap .i64 (a1 + 1))) 1) == 1)
  else none
theorem F99_ok (n : Nat) (a0 : Int) (a1 : Int) : ∀ r, F99 n a0 a1 = some r → D 99 [.one (li .u8 a0), .one (li .i64 a1)] [] = some (F99_e r) := by
  refine fn_to (D := D) (n := n + 8) (nt := 11) (rs := pc99_r) (c := pc99_c5) (L := [(0, .one (li .u8 a0)), (1, qj a1)]) (M := []) (k := 0) rfl rfl rfl rfl rfl rfl rfl ?_
  unfold F99
  exact Sim.sr 1 [(4, qb false)] [] (.st 3 [(7, qj (IntKind.wrap .i64 (a1 + 1))), (6, qj a1), (5, .one (li .u8 a0))] [] (.guard (c := ¬ (IntKind.wrap .i64 (a1 + 1) < 0)) ⟨some 8, POp.prim (Prim.bin BinOp.shr 5 false false) [Operand.tmp 5, Operand.tmp 7], none, []⟩ [(8, .one (li .u8 (shrI .u8 a0 (IntKind.wrap .i64 (a1 + 1)))))] [] (by kernel_rfl) (fun hc => pOp_eff (by kernel_rfl) (by kernel_rfl) (eff_prim (by kernel_rfl) (pr_shr _ _ _ .u8 .i64 a0 (IntKind.wrap .i64 (a1 + 1)) hc))) (.rd 3 [(4, qb ((bitsI .and .u8 (shrI .u8 a0 (IntKind.wrap .i64 (a1 + 1))) 1) == 1)), (10, qb ((bitsI .and .u8 (shrI .u8 a0 (IntKind.wrap .i64 (a1 + 1))) 1) == 1)), (9, .one (li .u8 (bitsI .and .u8 (shrI .u8 a0 (IntKind.wrap .i64 (a1 + 1))) 1)))] [] (.thenN (.ret .fn)))))


-- 77: vedette/fields.IsDelta
def F77_e : Bool → PV × List Ob := fun r => (.one (lb r), [])
def F77_u15 (n : Nat) : Option Bool :=
    some true
theorem F77_u15_ok (n : Nat) (a0 : Delta) : SimL Try.prog D (n + 8) (n + 4) pc77_c34 [(1, qp 1 0), (40, .agg (A4_Field.cells a0.F)), (41, qj 4)] [(1, some (.cells (Delta.cells a0)))] (F77_u15 n) (QB 0 (QT Try.prog D (n + 8) pc77_c40 (QF false pc77_r 0 F77_e))) := by
    unfold F77_u15
    exact SimL.succ (.seq (.rg [(1, qp 1 0), (40, .agg (A4_Field.cells a0.F)), (41, qj 4)] [(1, some (.cells (Delta.cells a0)))] (.rd 1 [(42, qb false)] [] (.thenN (.seq (.condF (by kernel_rfl) (.exit (.thenX (.loopX (.blockX (.thenN (.sr 1 [(2, qb true)] [] (.ret .fn)))))))))))))

def F77_u12 (n : Nat) (a0 : Delta) : Option Bool :=
    (F70 n a0.F.a3).bind fun (r13 : Bool) =>
    if !(r13) then
      some false
    else
      (F99 n a0.Mask 3).bind fun (r14 : Bool) =>
      if !(r14) then
        if !(Field.eqb a0.F.a3 (Field.mk 0 ByteArray.empty)) then
          some false
        else
          F77_u15 n
      else
        F77_u15 n
theorem F77_u12_ok (n : Nat) (a0 : Delta) : SimL Try.prog D (n + 8) (n + 5) pc77_c34 [(1, qp 1 0), (40, .agg (A4_Field.cells a0.F)), (41, qj 3)] [(1, some (.cells (Delta.cells a0)))] (F77_u12 n a0) (QB 0 (QT Try.prog D (n + 8) pc77_c40 (QF false pc77_r 0 F77_e))) := by
    unfold F77_u12
    refine SimL.succ (.seq (.rg [(1, qp 1 0), (40, .agg (A4_Field.cells a0.F)), (41, qj 3)] [(1, some (.cells (Delta.cells a0)))] (.rd 1 [(42, qb true)] [] (.thenN (.seq (.condT (by kernel_rfl) (.skip (.thenN (.seq (.block (.sr 5 [(3, qj 3), (4, qp 4 0), (44, .agg [lj a0.F.a3.N, ls a0.F.a3.Text]), (43, qj 3)] [(4, some (.cells [lj a0.F.a3.N, ls a0.F.a3.Text])), (4, some (.cells [lj 0, ls be]))] (.st 1 [(45, .agg [lj a0.F.a3.N, ls a0.F.a3.Text])] [] (.cl 46 true [[]] 70 [Operand.tmp 45] none (fun r13 => qb r13) [.agg [lj a0.F.a3.N, ls a0.F.a3.Text]] (F70_ok n a0.F.a3) (fun r13 => ?_))))))))))))))
    refine SimI.rn 2 [(48, qb (!(r13))), (47, qb (!(r13)))] [] (.split 48 (!(r13)) (by kernel_rfl) ?_ ?_)
    · exact SimI.rd 11 [(59, qb true), (58, .tup []), (57, .tup []), (56, .tup []), (55, .tup []), (54, .tup []), (53, .tup []), (52, .tup []), (51, .tup []), (50, .tup []), (49, .tup [])] [] (.thenN (.condT (by kernel_rfl) (.sr 1 [(2, qb false)] [] (.ret (.blockR (.thenR (.loopR (.blockR (.thenR .fn)))))))))
    · refine SimI.rn 3 [(51, qj 3), (50, .one (li .u8 a0.Mask)), (49, qp 1 1)] [] (.cl 52 true [[], []] 99 [Operand.tmp 50, Operand.tmp 51] (some (48, false)) (fun r14 => qb r14) [.one (li .u8 a0.Mask), qj 3] (F99_ok n a0.Mask 3) (fun r14 => ?_))
      refine SimI.rn 2 [(54, qb (!(r14))), (53, qb (!(r14)))] [] (.split 54 (!(r14)) (by kernel_rfl) ?_ ?_)
      · refine SimI.rn 2 [(56, .agg [lj 0, ls be]), (55, .agg [lj a0.F.a3.N, ls a0.F.a3.Text])] [] (.step ⟨some 57, POp.prim (Prim.bin BinOp.neq 25 false false) [Operand.tmp 55, Operand.tmp 56], some (54, true), []⟩ [(57, qb (!(Field.eqb a0.F.a3 (Field.mk 0 be))))] [] (by kernel_rfl) (pOp_eff (by kernel_rfl) (by kernel_rfl) (eff_prim (by kernel_rfl) (Field_eqn a0.F.a3 (Field.mk 0 be) _ _))) (.rd 2 [(59, qb (!(Field.eqb a0.F.a3 (Field.mk 0 be)))), (58, qb (!(Field.eqb a0.F.a3 (Field.mk 0 be))))] [] (.thenN (.cond (!(Field.eqb a0.F.a3 (Field.mk 0 be))) (by kernel_rfl) ?_ ?_))))
        · exact Sim.sr 1 [(2, qb false)] [] (.ret (.blockR (.thenR (.loopR (.blockR (.thenR .fn))))))
        · refine Sim.skip (.blockN (.thenN (.region0 (.rd 2 [(41, qj 4), (60, qj 4)] [] (.loopN (.pr [1, 40, 41] [1, 4] [] [(1, qp 1 0), (40, .agg (A4_Field.cells a0.F)), (41, qj 4)] [(1, some (.cells (Delta.cells a0)))] ?_))))))
          exact F77_u15_ok n a0
      · refine SimI.rd 5 [(59, qb false), (58, qb false), (57, .tup []), (56, .tup []), (55, .tup [])] [] (.thenN (.condF (by kernel_rfl) (.skip (.blockN (.thenN (.region0 (.rd 2 [(41, qj 4), (60, qj 4)] [] (.loopN (.pr [1, 40, 41] [1, 4] [] [(1, qp 1 0), (40, .agg (A4_Field.cells a0.F)), (41, qj 4)] [(1, some (.cells (Delta.cells a0)))] ?_)))))))))
        exact F77_u15_ok n a0

def F77_u9 (n : Nat) (a0 : Delta) : Option Bool :=
    (F70 n a0.F.a2).bind fun (r10 : Bool) =>
    if !(r10) then
      some false
    else
      (F99 n a0.Mask 2).bind fun (r11 : Bool) =>
      if !(r11) then
        if !(Field.eqb a0.F.a2 (Field.mk 0 ByteArray.empty)) then
          some false
        else
          F77_u12 n a0
      else
        F77_u12 n a0
theorem F77_u9_ok (n : Nat) (a0 : Delta) : SimL Try.prog D (n + 8) (n + 6) pc77_c34 [(1, qp 1 0), (40, .agg (A4_Field.cells a0.F)), (41, qj 2)] [(1, some (.cells (Delta.cells a0)))] (F77_u9 n a0) (QB 0 (QT Try.prog D (n + 8) pc77_c40 (QF false pc77_r 0 F77_e))) := by
    unfold F77_u9
    refine SimL.succ (.seq (.rg [(1, qp 1 0), (40, .agg (A4_Field.cells a0.F)), (41, qj 2)] [(1, some (.cells (Delta.cells a0)))] (.rd 1 [(42, qb true)] [] (.thenN (.seq (.condT (by kernel_rfl) (.skip (.thenN (.seq (.block (.sr 5 [(3, qj 2), (4, qp 4 0), (44, .agg [lj a0.F.a2.N, ls a0.F.a2.Text]), (43, qj 2)] [(4, some (.cells [lj a0.F.a2.N, ls a0.F.a2.Text])), (4, some (.cells [lj 0, ls be]))] (.st 1 [(45, .agg [lj a0.F.a2.N, ls a0.F.a2.Text])] [] (.cl 46 true [[]] 70 [Operand.tmp 45] none (fun r10 => qb r10) [.agg [lj a0.F.a2.N, ls a0.F.a2.Text]] (F70_ok n a0.F.a2) (fun r10 => ?_))))))))))))))
    refine SimI.rn 2 [(48, qb (!(r10))), (47, qb (!(r10)))] [] (.split 48 (!(r10)) (by kernel_rfl) ?_ ?_)
    · exact SimI.rd 11 [(59, qb true), (58, .tup []), (57, .tup []), (56, .tup []), (55, .tup []), (54, .tup []), (53, .tup []), (52, .tup []), (51, .tup []), (50, .tup []), (49, .tup [])] [] (.thenN (.condT (by kernel_rfl) (.sr 1 [(2, qb false)] [] (.ret (.blockR (.thenR (.loopR (.blockR (.thenR .fn)))))))))
    · refine SimI.rn 3 [(51, qj 2), (50, .one (li .u8 a0.Mask)), (49, qp 1 1)] [] (.cl 52 true [[], []] 99 [Operand.tmp 50, Operand.tmp 51] (some (48, false)) (fun r11 => qb r11) [.one (li .u8 a0.Mask), qj 2] (F99_ok n a0.Mask 2) (fun r11 => ?_))
      refine SimI.rn 2 [(54, qb (!(r11))), (53, qb (!(r11)))] [] (.split 54 (!(r11)) (by kernel_rfl) ?_ ?_)
      · refine SimI.rn 2 [(56, .agg [lj 0, ls be]), (55, .agg [lj a0.F.a2.N, ls a0.F.a2.Text])] [] (.step ⟨some 57, POp.prim (Prim.bin BinOp.neq 25 false false) [Operand.tmp 55, Operand.tmp 56], some (54, true), []⟩ [(57, qb (!(Field.eqb a0.F.a2 (Field.mk 0 be))))] [] (by kernel_rfl) (pOp_eff (by kernel_rfl) (by kernel_rfl) (eff_prim (by kernel_rfl) (Field_eqn a0.F.a2 (Field.mk 0 be) _ _))) (.rd 2 [(59, qb (!(Field.eqb a0.F.a2 (Field.mk 0 be)))), (58, qb (!(Field.eqb a0.F.a2 (Field.mk 0 be))))] [] (.thenN (.cond (!(Field.eqb a0.F.a2 (Field.mk 0 be))) (by kernel_rfl) ?_ ?_))))
        · exact Sim.sr 1 [(2, qb false)] [] (.ret (.blockR (.thenR (.loopR (.blockR (.thenR .fn))))))
        · refine Sim.skip (.blockN (.thenN (.region0 (.rd 2 [(41, qj 3), (60, qj 3)] [] (.loopN (.pr [1, 40, 41] [1, 4] [] [(1, qp 1 0), (40, .agg (A4_Field.cells a0.F)), (41, qj 3)] [(1, some (.cells (Delta.cells a0)))] ?_))))))
          exact F77_u12_ok n a0
      · refine SimI.rd 5 [(59, qb false), (58, qb false), (57, .tup []), (56, .tup []), (55, .tup [])] [] (.thenN (.condF (by kernel_rfl) (.skip (.blockN (.thenN (.region0 (.rd 2 [(41, qj 3), (60, qj 3)] [] (.loopN (.pr [1, 40, 41] [1, 4] [] [(1, qp 1 0), (40, .agg (A4_Field.cells a0.F)), (41, qj 3)] [(1, some (.cells (Delta.cells a0)))] ?_)))))))))
        exact F77_u12_ok n a0

def F77_u6 (n : Nat) (a0 : Delta) : Option Bool :=
    (F70 n a0.F.a1).bind fun (r7 : Bool) =>
    if !(r7) then
      some false
    else
      (F99 n a0.Mask 1).bind fun (r8 : Bool) =>
      if !(r8) then
        if !(Field.eqb a0.F.a1 (Field.mk 0 ByteArray.empty)) then
          some false
        else
          F77_u9 n a0
      else
        F77_u9 n a0
theorem F77_u6_ok (n : Nat) (a0 : Delta) : SimL Try.prog D (n + 8) (n + 7) pc77_c34 [(1, qp 1 0), (40, .agg (A4_Field.cells a0.F)), (41, qj 1)] [(1, some (.cells (Delta.cells a0)))] (F77_u6 n a0) (QB 0 (QT Try.prog D (n + 8) pc77_c40 (QF false pc77_r 0 F77_e))) := by
    unfold F77_u6
    refine SimL.succ (.seq (.rg [(1, qp 1 0), (40, .agg (A4_Field.cells a0.F)), (41, qj 1)] [(1, some (.cells (Delta.cells a0)))] (.rd 1 [(42, qb true)] [] (.thenN (.seq (.condT (by kernel_rfl) (.skip (.thenN (.seq (.block (.sr 5 [(3, qj 1), (4, qp 4 0), (44, .agg [lj a0.F.a1.N, ls a0.F.a1.Text]), (43, qj 1)] [(4, some (.cells [lj a0.F.a1.N, ls a0.F.a1.Text])), (4, some (.cells [lj 0, ls be]))] (.st 1 [(45, .agg [lj a0.F.a1.N, ls a0.F.a1.Text])] [] (.cl 46 true [[]] 70 [Operand.tmp 45] none (fun r7 => qb r7) [.agg [lj a0.F.a1.N, ls a0.F.a1.Text]] (F70_ok n a0.F.a1) (fun r7 => ?_))))))))))))))
    refine SimI.rn 2 [(48, qb (!(r7))), (47, qb (!(r7)))] [] (.split 48 (!(r7)) (by kernel_rfl) ?_ ?_)
    · exact SimI.rd 11 [(59, qb true), (58, .tup []), (57, .tup []), (56, .tup []), (55, .tup []), (54, .tup []), (53, .tup []), (52, .tup []), (51, .tup []), (50, .tup []), (49, .tup [])] [] (.thenN (.condT (by kernel_rfl) (.sr 1 [(2, qb false)] [] (.ret (.blockR (.thenR (.loopR (.blockR (.thenR .fn)))))))))
    · refine SimI.rn 3 [(51, qj 1), (50, .one (li .u8 a0.Mask)), (49, qp 1 1)] [] (.cl 52 true [[], []] 99 [Operand.tmp 50, Operand.tmp 51] (some (48, false)) (fun r8 => qb r8) [.one (li .u8 a0.Mask), qj 1] (F99_ok n a0.Mask 1) (fun r8 => ?_))
      refine SimI.rn 2 [(54, qb (!(r8))), (53, qb (!(r8)))] [] (.split 54 (!(r8)) (by kernel_rfl) ?_ ?_)
      · refine SimI.rn 2 [(56, .agg [lj 0, ls be]), (55, .agg [lj a0.F.a1.N, ls a0.F.a1.Text])] [] (.step ⟨some 57, POp.prim (Prim.bin BinOp.neq 25 false false) [Operand.tmp 55, Operand.tmp 56], some (54, true), []⟩ [(57, qb (!(Field.eqb a0.F.a1 (Field.mk 0 be))))] [] (by kernel_rfl) (pOp_eff (by kernel_rfl) (by kernel_rfl) (eff_prim (by kernel_rfl) (Field_eqn a0.F.a1 (Field.mk 0 be) _ _))) (.rd 2 [(59, qb (!(Field.eqb a0.F.a1 (Field.mk 0 be)))), (58, qb (!(Field.eqb a0.F.a1 (Field.mk 0 be))))] [] (.thenN (.cond (!(Field.eqb a0.F.a1 (Field.mk 0 be))) (by kernel_rfl) ?_ ?_))))
        · exact Sim.sr 1 [(2, qb false)] [] (.ret (.blockR (.thenR (.loopR (.blockR (.thenR .fn))))))
        · refine Sim.skip (.blockN (.thenN (.region0 (.rd 2 [(41, qj 2), (60, qj 2)] [] (.loopN (.pr [1, 40, 41] [1, 4] [] [(1, qp 1 0), (40, .agg (A4_Field.cells a0.F)), (41, qj 2)] [(1, some (.cells (Delta.cells a0)))] ?_))))))
          exact F77_u9_ok n a0
      · refine SimI.rd 5 [(59, qb false), (58, qb false), (57, .tup []), (56, .tup []), (55, .tup [])] [] (.thenN (.condF (by kernel_rfl) (.skip (.blockN (.thenN (.region0 (.rd 2 [(41, qj 2), (60, qj 2)] [] (.loopN (.pr [1, 40, 41] [1, 4] [] [(1, qp 1 0), (40, .agg (A4_Field.cells a0.F)), (41, qj 2)] [(1, some (.cells (Delta.cells a0)))] ?_)))))))))
        exact F77_u9_ok n a0

def F77_j3 (n : Nat) (a0 : Delta) : Option Bool :=
    (F70 n a0.F.a0).bind fun (r4 : Bool) =>
    if !(r4) then
      some false
    else
      (F99 n a0.Mask 0).bind fun (r5 : Bool) =>
      if !(r5) then
        if !(Field.eqb a0.F.a0 (Field.mk 0 ByteArray.empty)) then
          some false
        else
          F77_u6 n a0
      else
        F77_u6 n a0
theorem F77_j3_ok (n : Nat) (a0 : Delta) : Sim Try.prog D (n + 8) pc77_c41 [(1, qp 1 0)] [(1, some (.cells (Delta.cells a0)))] (F77_j3 n a0) (QF false pc77_r 0 F77_e) := by
    unfold F77_j3
    refine Sim.seq (.seq (.rg [(1, qp 1 0)] [(1, some (.cells (Delta.cells a0)))] (.rd 3 [(41, qj 0), (40, .agg (A4_Field.cells a0.F)), (39, qp 1 4)] [] (.thenN (.block (.loop (.succ (.seq (.rg [(1, qp 1 0), (40, .agg (A4_Field.cells a0.F)), (41, qj 0)] [(1, some (.cells (Delta.cells a0)))] (.rd 1 [(42, qb true)] [] (.thenN (.seq (.condT (by kernel_rfl) (.skip (.thenN (.seq (.block (.sr 5 [(3, qj 0), (4, qp 4 0), (44, .agg [lj a0.F.a0.N, ls a0.F.a0.Text]), (43, qj 0)] [(4, some (.cells [lj a0.F.a0.N, ls a0.F.a0.Text])), (4, some (.cells [lj 0, ls be]))] (.st 1 [(45, .agg [lj a0.F.a0.N, ls a0.F.a0.Text])] [] (.cl 46 true [[]] 70 [Operand.tmp 45] none (fun r4 => qb r4) [.agg [lj a0.F.a0.N, ls a0.F.a0.Text]] (F70_ok n a0.F.a0) (fun r4 => ?_)))))))))))))))))))))
    refine SimI.rn 2 [(48, qb (!(r4))), (47, qb (!(r4)))] [] (.split 48 (!(r4)) (by kernel_rfl) ?_ ?_)
    · exact SimI.rd 11 [(59, qb true), (58, .tup []), (57, .tup []), (56, .tup []), (55, .tup []), (54, .tup []), (53, .tup []), (52, .tup []), (51, .tup []), (50, .tup []), (49, .tup [])] [] (.thenN (.condT (by kernel_rfl) (.sr 1 [(2, qb false)] [] (.ret (.blockR (.thenR (.loopR (.blockR (.thenR .fn)))))))))
    · refine SimI.rn 3 [(51, qj 0), (50, .one (li .u8 a0.Mask)), (49, qp 1 1)] [] (.cl 52 true [[], []] 99 [Operand.tmp 50, Operand.tmp 51] (some (48, false)) (fun r5 => qb r5) [.one (li .u8 a0.Mask), qj 0] (F99_ok n a0.Mask 0) (fun r5 => ?_))
      refine SimI.rn 2 [(54, qb (!(r5))), (53, qb (!(r5)))] [] (.split 54 (!(r5)) (by kernel_rfl) ?_ ?_)
      · refine SimI.rn 2 [(56, .agg [lj 0, ls be]), (55, .agg [lj a0.F.a0.N, ls a0.F.a0.Text])] [] (.step ⟨some 57, POp.prim (Prim.bin BinOp.neq 25 false false) [Operand.tmp 55, Operand.tmp 56], some (54, true), []⟩ [(57, qb (!(Field.eqb a0.F.a0 (Field.mk 0 be))))] [] (by kernel_rfl) (pOp_eff (by kernel_rfl) (by kernel_rfl) (eff_prim (by kernel_rfl) (Field_eqn a0.F.a0 (Field.mk 0 be) _ _))) (.rd 2 [(59, qb (!(Field.eqb a0.F.a0 (Field.mk 0 be)))), (58, qb (!(Field.eqb a0.F.a0 (Field.mk 0 be))))] [] (.thenN (.cond (!(Field.eqb a0.F.a0 (Field.mk 0 be))) (by kernel_rfl) ?_ ?_))))
        · exact Sim.sr 1 [(2, qb false)] [] (.ret (.blockR (.thenR (.loopR (.blockR (.thenR .fn))))))
        · refine Sim.skip (.blockN (.thenN (.region0 (.rd 2 [(41, qj 1), (60, qj 1)] [] (.loopN (.pr [1, 40, 41] [1, 4] [] [(1, qp 1 0), (40, .agg (A4_Field.cells a0.F)), (41, qj 1)] [(1, some (.cells (Delta.cells a0)))] ?_))))))
          exact F77_u6_ok n a0
      · refine SimI.rd 5 [(59, qb false), (58, qb false), (57, .tup []), (56, .tup []), (55, .tup [])] [] (.thenN (.condF (by kernel_rfl) (.skip (.blockN (.thenN (.region0 (.rd 2 [(41, qj 1), (60, qj 1)] [] (.loopN (.pr [1, 40, 41] [1, 4] [] [(1, qp 1 0), (40, .agg (A4_Field.cells a0.F)), (41, qj 1)] [(1, some (.cells (Delta.cells a0)))] ?_)))))))))
        exact F77_u6_ok n a0

def F77 (n : Nat) (a0 : Delta) : Option Bool :=
  if decide (a0.ID < 0) then
    some false
  else
    if decide ((1000000 : Int) < a0.ID) then
      some false
    else
      if a0.Mask == 0 then
        some false
      else
        if decide ((31 : Int) < a0.Mask) then
          some false
        else
          if (bitsI .and .u8 a0.Mask 1) == 0 then
            if !(Point.eqb a0.At (Point.mk 0 0)) then
              some false
            else
              (F67 n a0.At).bind fun (r1 : Bool) =>
              if !(r1) then
                some false
              else
                F77_j3 n a0
          else
            (F67 n a0.At).bind fun (r2 : Bool) =>
            if !(r2) then
              some false
            else
              F77_j3 n a0
theorem F77_ok (n : Nat) (a0 : Delta) : ∀ r, F77 n a0 = some r → D 77 [.agg (Delta.cells a0)] [] = some (F77_e r) := by
  refine fn_to (D := D) (n := n + 8) (nt := 61) (rs := pc77_r) (c := pc77_c44) (L := [(0, .agg (Delta.cells a0))]) (M := []) (k := 0) rfl rfl rfl rfl rfl rfl rfl ?_
  unfold F77
  refine Sim.sr 2 [(2, qb false), (1, qp 1 0)] [(1, some (.cells (Delta.cells a0)))] (.seq (.st 4 [(8, qb (decide (a0.ID < 0))), (7, qb (decide (a0.ID < 0))), (6, qj a0.ID), (5, qp 1 0)] [] (.split 8 (decide (a0.ID < 0)) (by kernel_rfl) ?_ ?_)))
  · exact SimI.rd 14 [(22, qb true), (21, .tup []), (20, .tup []), (19, .tup []), (18, qb true), (17, qb true), (16, .tup []), (15, .tup []), (14, .tup []), (13, qb true), (12, qb true), (11, .tup []), (10, .tup []), (9, .tup [])] [] (.thenN (.condT (by kernel_rfl) (.sr 1 [(2, qb false)] [] (.ret (.thenR .fn)))))
  · refine SimI.rn 5 [(13, qb (decide ((1000000 : Int) < a0.ID))), (12, qb (decide ((1000000 : Int) < a0.ID))), (11, qb (decide ((1000000 : Int) < a0.ID))), (10, qj a0.ID), (9, qp 1 0)] [] (.split 13 (decide ((1000000 : Int) < a0.ID)) (by kernel_rfl) ?_ ?_)
    · exact SimI.rd 9 [(22, qb true), (21, .tup []), (20, .tup []), (19, .tup []), (18, qb true), (17, qb true), (16, .tup []), (15, .tup []), (14, .tup [])] [] (.thenN (.condT (by kernel_rfl) (.sr 1 [(2, qb false)] [] (.ret (.thenR .fn)))))
    · refine SimI.rn 5 [(18, qb (a0.Mask == 0)), (17, qb (a0.Mask == 0)), (16, qb (a0.Mask == 0)), (15, .one (li .u8 a0.Mask)), (14, qp 1 1)] [] (.split 18 (a0.Mask == 0) (by kernel_rfl) ?_ ?_)
      · exact SimI.rd 4 [(22, qb true), (21, .tup []), (20, .tup []), (19, .tup [])] [] (.thenN (.condT (by kernel_rfl) (.sr 1 [(2, qb false)] [] (.ret (.thenR .fn)))))
      · refine SimI.rd 4 [(22, qb (decide ((31 : Int) < a0.Mask))), (21, qb (decide ((31 : Int) < a0.Mask))), (20, .one (li .u8 a0.Mask)), (19, qp 1 1)] [] (.thenN (.cond (decide ((31 : Int) < a0.Mask)) (by kernel_rfl) ?_ ?_))
        · exact Sim.sr 1 [(2, qb false)] [] (.ret (.thenR .fn))
        · refine Sim.skip (.thenN (.seq (.st 5 [(27, qb ((bitsI .and .u8 a0.Mask 1) == 0)), (26, qb ((bitsI .and .u8 a0.Mask 1) == 0)), (25, .one (li .u8 (bitsI .and .u8 a0.Mask 1))), (24, .one (li .u8 a0.Mask)), (23, qp 1 1)] [] (.split 27 ((bitsI .and .u8 a0.Mask 1) == 0) (by kernel_rfl) ?_ ?_))))
          · refine SimI.rn 3 [(30, .agg [lj 0, lj 0]), (29, .agg [lj a0.At.X, lj a0.At.Y]), (28, qp 1 2)] [] (.step ⟨some 31, POp.prim (Prim.bin BinOp.neq 23 false false) [Operand.tmp 29, Operand.tmp 30], some (27, true), []⟩ [(31, qb (!(Point.eqb a0.At (Point.mk 0 0))))] [] (by kernel_rfl) (pOp_eff (by kernel_rfl) (by kernel_rfl) (eff_prim (by kernel_rfl) (Point_eqn a0.At (Point.mk 0 0) _ _))) (.rn 2 [(33, qb (!(Point.eqb a0.At (Point.mk 0 0)))), (32, qb (!(Point.eqb a0.At (Point.mk 0 0))))] [] (.split 33 (!(Point.eqb a0.At (Point.mk 0 0))) (by kernel_rfl) ?_ ?_)))
            · exact SimI.rd 5 [(38, qb true), (37, .tup []), (36, .tup []), (35, .tup []), (34, .tup [])] [] (.thenN (.condT (by kernel_rfl) (.sr 1 [(2, qb false)] [] (.ret (.thenR .fn)))))
            · refine SimI.rn 2 [(35, .agg [lj a0.At.X, lj a0.At.Y]), (34, qp 1 2)] [] (.cl 36 true [[]] 67 [Operand.tmp 35] (some (33, false)) (fun r1 => qb r1) [.agg [lj a0.At.X, lj a0.At.Y]] (F67_ok n a0.At) (fun r1 => ?_))
              refine SimI.rd 2 [(38, qb (!(r1))), (37, qb (!(r1)))] [] (.thenN (.cond (!(r1)) (by kernel_rfl) ?_ ?_))
              · exact Sim.sr 1 [(2, qb false)] [] (.ret (.thenR .fn))
              · refine Sim.skip (.thenN (.pr [1] [1] [] [(1, qp 1 0)] [(1, some (.cells (Delta.cells a0)))] ?_))
                exact F77_j3_ok n a0
          · refine SimI.rn 8 [(35, .agg [lj a0.At.X, lj a0.At.Y]), (34, qp 1 2), (33, qb false), (32, qb false), (31, .tup []), (30, .tup []), (29, .tup []), (28, .tup [])] [] (.cl 36 true [[]] 67 [Operand.tmp 35] (some (33, false)) (fun r2 => qb r2) [.agg [lj a0.At.X, lj a0.At.Y]] (F67_ok n a0.At) (fun r2 => ?_))
            refine SimI.rd 2 [(38, qb (!(r2))), (37, qb (!(r2)))] [] (.thenN (.cond (!(r2)) (by kernel_rfl) ?_ ?_))
            · exact Sim.sr 1 [(2, qb false)] [] (.ret (.thenR .fn))
            · refine Sim.skip (.thenN (.pr [1] [1] [] [(1, qp 1 0)] [(1, some (.cells (Delta.cells a0)))] ?_))
              exact F77_j3_ok n a0


-- 39: vedette/event.Is
def F39_e : Bool → PV × List Ob := fun r => (.one (lb r), [])
def F39 (n : Nat) (a0 : Event) : Option Bool :=
  if a0.Kind == 1 then
    (F24 n a0.Thing).bind fun (r1 : Bool) =>
    if r1 then
      if a0.ID == a0.Thing.ID then
        some (Delta.eqb a0.Delta (Delta.mk 0 0 (Point.mk 0 0) (A4.mk (Field.mk 0 ByteArray.empty) (Field.mk 0 ByteArray.empty) (Field.mk 0 ByteArray.empty) (Field.mk 0 ByteArray.empty))))
      else
        some false
    else
      some false
  else
    if a0.Kind == 2 then
      (F77 n a0.Delta).bind fun (r2 : Bool) =>
      if r2 then
        if a0.ID == a0.Delta.ID then
          some (Thing.eqb a0.Thing (Thing.mk 0 (Point.mk 0 0) (A4.mk (Field.mk 0 ByteArray.empty) (Field.mk 0 ByteArray.empty) (Field.mk 0 ByteArray.empty) (Field.mk 0 ByteArray.empty))))
        else
          some false
      else
        some false
    else
      if a0.Kind == 3 then
        if decide ((0 : Int) ≤ a0.ID) then
          if decide (a0.ID ≤ 1000000) then
            if Thing.eqb a0.Thing (Thing.mk 0 (Point.mk 0 0) (A4.mk (Field.mk 0 ByteArray.empty) (Field.mk 0 ByteArray.empty) (Field.mk 0 ByteArray.empty) (Field.mk 0 ByteArray.empty))) then
              some (Delta.eqb a0.Delta (Delta.mk 0 0 (Point.mk 0 0) (A4.mk (Field.mk 0 ByteArray.empty) (Field.mk 0 ByteArray.empty) (Field.mk 0 ByteArray.empty) (Field.mk 0 ByteArray.empty))))
            else
              some false
          else
            some false
        else
          some false
      else
        some false
theorem F39_ok (n : Nat) (a0 : Event) : ∀ r, F39 n a0 = some r → D 39 [.agg (Event.cells a0)] [] = some (F39_e r) := by
  refine fn_to (D := D) (n := n + 8) (nt := 63) (rs := pc39_r) (c := pc39_c30) (L := [(0, .agg (Event.cells a0))]) (M := []) (k := 0) rfl rfl rfl rfl rfl rfl rfl ?_
  unfold F39
  refine Sim.sr 2 [(2, qb false), (1, qp 1 0)] [(1, some (.cells (Event.cells a0)))] (.st 3 [(7, .agg [lj 0, lj 0, lj 0, lj 0, ls be, lj 0, ls be, lj 0, ls be, lj 0, ls be]), (6, .agg (Thing.cells a0.Thing)), (5, qp 1 2)] [] (.step ⟨some 8, POp.prim (Prim.bin BinOp.eql 28 false false) [Operand.tmp 6, Operand.tmp 7], none, [(6, Hint.imm), (7, Hint.imm)]⟩ [(8, qb (Thing.eqb a0.Thing (Thing.mk 0 (Point.mk 0 0) (A4.mk (Field.mk 0 be) (Field.mk 0 be) (Field.mk 0 be) (Field.mk 0 be)))))] [] (by kernel_rfl) (pOp_eff (by kernel_rfl) (by kernel_rfl) (eff_prim (by kernel_rfl) (Thing_eql a0.Thing (Thing.mk 0 (Point.mk 0 0) (A4.mk (Field.mk 0 be) (Field.mk 0 be) (Field.mk 0 be) (Field.mk 0 be))) _ _))) (.rn 3 [(11, .agg [lj 0, li .u8 0, lj 0, lj 0, lj 0, ls be, lj 0, ls be, lj 0, ls be, lj 0, ls be]), (10, .agg (Delta.cells a0.Delta)), (9, qp 1 13)] [] (.step ⟨some 12, POp.prim (Prim.bin BinOp.eql 35 false false) [Operand.tmp 10, Operand.tmp 11], none, [(10, Hint.imm), (11, Hint.imm)]⟩ [(12, qb (Delta.eqb a0.Delta (Delta.mk 0 0 (Point.mk 0 0) (A4.mk (Field.mk 0 be) (Field.mk 0 be) (Field.mk 0 be) (Field.mk 0 be)))))] [] (by kernel_rfl) (pOp_eff (by kernel_rfl) (by kernel_rfl) (eff_prim (by kernel_rfl) (Delta_eql a0.Delta (Delta.mk 0 0 (Point.mk 0 0) (A4.mk (Field.mk 0 be) (Field.mk 0 be) (Field.mk 0 be) (Field.mk 0 be))) _ _))) (.rd 2 [(4, qb (Delta.eqb a0.Delta (Delta.mk 0 0 (Point.mk 0 0) (A4.mk (Field.mk 0 be) (Field.mk 0 be) (Field.mk 0 be) (Field.mk 0 be))))), (3, qb (Thing.eqb a0.Thing (Thing.mk 0 (Point.mk 0 0) (A4.mk (Field.mk 0 be) (Field.mk 0 be) (Field.mk 0 be) (Field.mk 0 be)))))] [] (.thenN (.seq (.sr 2 [(14, qj a0.Kind), (13, qp 1 0)] [] (.block (.sr 2 [(15, qb (a0.Kind == 1)), (16, qb (a0.Kind == 1))] [] (.cond (a0.Kind == 1) (by kernel_rfl) ?_ ?_)))))))))))
  · refine Sim.st 2 [(18, .agg (Thing.cells a0.Thing)), (17, qp 1 2)] [] (.cl 19 true [[]] 24 [Operand.tmp 18] none (fun r1 => qb r1) [.agg (Thing.cells a0.Thing)] (F24_ok n a0.Thing) (fun r1 => ?_))
    refine SimI.rn 1 [(20, qb r1)] [] (.split 20 r1 (by kernel_rfl) ?_ ?_)
    · refine SimI.rn 8 [(28, qb (a0.ID == a0.Thing.ID)), (27, qb (a0.ID == a0.Thing.ID)), (26, qb (a0.ID == a0.Thing.ID)), (25, qj a0.Thing.ID), (24, qp 1 2), (23, qp 1 2), (22, qj a0.ID), (21, qp 1 1)] [] (.split 28 (a0.ID == a0.Thing.ID) (by kernel_rfl) ?_ ?_)
      · exact SimI.rd 3 [(2, qb (Delta.eqb a0.Delta (Delta.mk 0 0 (Point.mk 0 0) (A4.mk (Field.mk 0 be) (Field.mk 0 be) (Field.mk 0 be) (Field.mk 0 be))))), (30, qb (Delta.eqb a0.Delta (Delta.mk 0 0 (Point.mk 0 0) (A4.mk (Field.mk 0 be) (Field.mk 0 be) (Field.mk 0 be) (Field.mk 0 be))))), (29, qb (Delta.eqb a0.Delta (Delta.mk 0 0 (Point.mk 0 0) (A4.mk (Field.mk 0 be) (Field.mk 0 be) (Field.mk 0 be) (Field.mk 0 be)))))] [] (.thenN (.ret (.blockR (.thenR .fn))))
      · exact SimI.rd 3 [(2, qb false), (30, qb false), (29, .tup [])] [] (.thenN (.ret (.blockR (.thenR .fn))))
    · exact SimI.rd 11 [(2, qb false), (30, qb false), (29, .tup []), (28, qb false), (27, qb false), (26, .tup []), (25, .tup []), (24, .tup []), (23, .tup []), (22, .tup []), (21, .tup [])] [] (.thenN (.ret (.blockR (.thenR .fn))))
  · refine Sim.sr 2 [(31, qb (a0.Kind == 2)), (32, qb (a0.Kind == 2))] [] (.cond (a0.Kind == 2) (by kernel_rfl) ?_ ?_)
    · refine Sim.st 2 [(34, .agg (Delta.cells a0.Delta)), (33, qp 1 13)] [] (.cl 35 true [[]] 77 [Operand.tmp 34] none (fun r2 => qb r2) [.agg (Delta.cells a0.Delta)] (F77_ok n a0.Delta) (fun r2 => ?_))
      refine SimI.rn 1 [(36, qb r2)] [] (.split 36 r2 (by kernel_rfl) ?_ ?_)
      · refine SimI.rn 8 [(44, qb (a0.ID == a0.Delta.ID)), (43, qb (a0.ID == a0.Delta.ID)), (42, qb (a0.ID == a0.Delta.ID)), (41, qj a0.Delta.ID), (40, qp 1 13), (39, qp 1 13), (38, qj a0.ID), (37, qp 1 1)] [] (.split 44 (a0.ID == a0.Delta.ID) (by kernel_rfl) ?_ ?_)
        · exact SimI.rd 3 [(2, qb (Thing.eqb a0.Thing (Thing.mk 0 (Point.mk 0 0) (A4.mk (Field.mk 0 be) (Field.mk 0 be) (Field.mk 0 be) (Field.mk 0 be))))), (46, qb (Thing.eqb a0.Thing (Thing.mk 0 (Point.mk 0 0) (A4.mk (Field.mk 0 be) (Field.mk 0 be) (Field.mk 0 be) (Field.mk 0 be))))), (45, qb (Thing.eqb a0.Thing (Thing.mk 0 (Point.mk 0 0) (A4.mk (Field.mk 0 be) (Field.mk 0 be) (Field.mk 0 be) (Field.mk 0 be)))))] [] (.thenN (.ret (.blockR (.thenR .fn))))
        · exact SimI.rd 3 [(2, qb false), (46, qb false), (45, .tup [])] [] (.thenN (.ret (.blockR (.thenR .fn))))
      · exact SimI.rd 11 [(2, qb false), (46, qb false), (45, .tup []), (44, qb false), (43, qb false), (42, .tup []), (41, .tup []), (40, .tup []), (39, .tup []), (38, .tup []), (37, .tup [])] [] (.thenN (.ret (.blockR (.thenR .fn))))
    · refine Sim.sr 2 [(47, qb (a0.Kind == 3)), (48, qb (a0.Kind == 3))] [] (.cond (a0.Kind == 3) (by kernel_rfl) ?_ ?_)
      · refine Sim.st 4 [(52, qb (decide ((0 : Int) ≤ a0.ID))), (51, qb (decide ((0 : Int) ≤ a0.ID))), (50, qj a0.ID), (49, qp 1 1)] [] (.split 52 (decide ((0 : Int) ≤ a0.ID)) (by kernel_rfl) ?_ ?_)
        · refine SimI.rn 5 [(57, qb (decide (a0.ID ≤ 1000000))), (56, qb (decide (a0.ID ≤ 1000000))), (55, qb (decide (a0.ID ≤ 1000000))), (54, qj a0.ID), (53, qp 1 1)] [] (.split 57 (decide (a0.ID ≤ 1000000)) (by kernel_rfl) ?_ ?_)
          · refine SimI.rn 3 [(60, qb (Thing.eqb a0.Thing (Thing.mk 0 (Point.mk 0 0) (A4.mk (Field.mk 0 be) (Field.mk 0 be) (Field.mk 0 be) (Field.mk 0 be))))), (59, qb (Thing.eqb a0.Thing (Thing.mk 0 (Point.mk 0 0) (A4.mk (Field.mk 0 be) (Field.mk 0 be) (Field.mk 0 be) (Field.mk 0 be))))), (58, qb (Thing.eqb a0.Thing (Thing.mk 0 (Point.mk 0 0) (A4.mk (Field.mk 0 be) (Field.mk 0 be) (Field.mk 0 be) (Field.mk 0 be)))))] [] (.split 60 (Thing.eqb a0.Thing (Thing.mk 0 (Point.mk 0 0) (A4.mk (Field.mk 0 be) (Field.mk 0 be) (Field.mk 0 be) (Field.mk 0 be)))) (by kernel_rfl) ?_ ?_)
            · exact SimI.rd 3 [(2, qb (Delta.eqb a0.Delta (Delta.mk 0 0 (Point.mk 0 0) (A4.mk (Field.mk 0 be) (Field.mk 0 be) (Field.mk 0 be) (Field.mk 0 be))))), (62, qb (Delta.eqb a0.Delta (Delta.mk 0 0 (Point.mk 0 0) (A4.mk (Field.mk 0 be) (Field.mk 0 be) (Field.mk 0 be) (Field.mk 0 be))))), (61, qb (Delta.eqb a0.Delta (Delta.mk 0 0 (Point.mk 0 0) (A4.mk (Field.mk 0 be) (Field.mk 0 be) (Field.mk 0 be) (Field.mk 0 be)))))] [] (.thenN (.ret (.blockR (.thenR .fn))))
            · exact SimI.rd 3 [(2, qb false), (62, qb false), (61, .tup [])] [] (.thenN (.ret (.blockR (.thenR .fn))))
          · exact SimI.rd 6 [(2, qb false), (62, qb false), (61, .tup []), (60, qb false), (59, qb false), (58, .tup [])] [] (.thenN (.ret (.blockR (.thenR .fn))))
        · exact SimI.rd 11 [(2, qb false), (62, qb false), (61, .tup []), (60, qb false), (59, qb false), (58, .tup []), (57, qb false), (56, qb false), (55, .tup []), (54, .tup []), (53, .tup [])] [] (.thenN (.ret (.blockR (.thenR .fn))))
      · exact Sim.skip (.blockN (.thenN (.sr 1 [(2, qb false)] [] (.ret .fn))))


-- 111: cmp.isNaN[int]
def F111_e : Bool → PV × List Ob := fun r => (.one (lb r), [])
def F111 (n : Nat) (a0 : Int) : Option Bool :=
  some (a0 != a0)
theorem F111_ok (n : Nat) (a0 : Int) : ∀ r, F111 n a0 = some r → D 111 [.one (li .i64 a0)] [] = some (F111_e r) := by
  refine fn_to (D := D) (n := n + 8) (nt := 6) (rs := pc111_r) (c := pc111_c5) (L := [(0, qj a0)]) (M := []) (k := 0) rfl rfl rfl rfl rfl rfl rfl ?_
  unfold F111
  exact Sim.sr 1 [(2, qb false)] [] (.sr 4 [(2, qb (a0 != a0)), (5, qb (a0 != a0)), (4, qj a0), (3, qj a0)] [] (.ret .fn))


-- 86: cmp.Compare[int]
def F86_e : Int → PV × List Ob := fun r => (.one (li .i64 r), [])
def F86 (n : Nat) (a0 : Int) (a1 : Int) : Option Int :=
  (F111 n a0).bind fun (r1 : Bool) =>
  (F111 n a1).bind fun (r2 : Bool) =>
  if r1 then
    if r2 then
      some 0
    else
      some (-1)
  else
    if r2 then
      some 1
    else
      if decide (a0 < a1) then
        some (-1)
      else
        if decide (a1 < a0) then
          some 1
        else
          some 0
theorem F86_ok (n : Nat) (a0 : Int) (a1 : Int) : ∀ r, F86 n a0 a1 = some r → D 86 [.one (li .i64 a0), .one (li .i64 a1)] [] = some (F86_e r) := by
  refine fn_to (D := D) (n := n + 8) (nt := 20) (rs := pc86_r) (c := pc86_c49) (L := [(0, qj a0), (1, qj a1)]) (M := []) (k := 0) rfl rfl rfl rfl rfl rfl rfl ?_
  unfold F86
  refine Sim.sr 1 [(4, qj 0)] [] (.st 1 [(7, qj a0)] [] (.cl 8 true [[]] 111 [Operand.tmp 7] none (fun r1 => qb r1) [qj a0] (F111_ok n a0) (fun r1 => ?_)))
  refine SimI.rd 1 [(5, qb r1)] [] (.thenN (.st 1 [(9, qj a1)] [] (.cl 10 true [[]] 111 [Operand.tmp 9] none (fun r2 => qb r2) [qj a1] (F111_ok n a1) (fun r2 => ?_))))
  refine SimI.rd 1 [(6, qb r2)] [] (.thenN (.seq (.sr 1 [(11, qb r1)] [] (.cond r1 (by kernel_rfl) ?_ ?_))))
  · refine Sim.seq (.sr 1 [(12, qb r2)] [] (.cond r2 (by kernel_rfl) ?_ ?_))
    · exact Sim.sr 1 [(4, qj 0)] [] (.ret (.thenR (.thenR .fn)))
    · exact Sim.skip (.thenN (.sr 1 [(4, qj (-1))] [] (.ret (.thenR .fn))))
  · refine Sim.skip (.thenN (.seq (.sr 1 [(13, qb r2)] [] (.cond r2 (by kernel_rfl) ?_ ?_))))
    · exact Sim.sr 1 [(4, qj 1)] [] (.ret (.thenR .fn))
    · refine Sim.skip (.thenN (.seq (.sr 3 [(16, qb (decide (a0 < a1))), (15, qj a1), (14, qj a0)] [] (.cond (decide (a0 < a1)) (by kernel_rfl) ?_ ?_))))
      · exact Sim.sr 1 [(4, qj (-1))] [] (.ret (.thenR .fn))
      · refine Sim.skip (.thenN (.seq (.sr 3 [(19, qb (decide (a1 < a0))), (18, qj a1), (17, qj a0)] [] (.cond (decide (a1 < a0)) (by kernel_rfl) ?_ ?_))))
        · exact Sim.sr 1 [(4, qj 1)] [] (.ret (.thenR .fn))
        · exact Sim.skip (.thenN (.sr 1 [(4, qj 0)] [] (.ret .fn)))


-- 85: vedette/event.Apply$1
def F85_e : Int → PV × List Ob := fun r => (.one (li .i64 r), [])
def F85 (n : Nat) (a0 : Thing) (a1 : Int) : Option Int :=
  (F86 n a0.ID a1).bind fun (r1 : Int) =>
  some r1
theorem F85_ok (n : Nat) (a0 : Thing) (a1 : Int) : ∀ r, F85 n a0 a1 = some r → D 85 [.agg (Thing.cells a0), .one (li .i64 a1)] [] = some (F85_e r) := by
  refine fn_to (D := D) (n := n + 8) (nt := 9) (rs := pc85_r) (c := pc85_c5) (L := [(0, .agg (Thing.cells a0)), (1, qj a1)]) (M := []) (k := 0) rfl rfl rfl rfl rfl rfl rfl ?_
  unfold F85
  refine Sim.sr 2 [(4, qj 0), (2, qp 2 0)] [(2, some (.cells (Thing.cells a0)))] (.st 3 [(7, qj a1), (6, qj a0.ID), (5, qp 2 0)] [] (.cl 8 true [[], []] 86 [Operand.tmp 6, Operand.tmp 7] none (fun r1 => qj r1) [qj a0.ID, qj a1] (F86_ok n a0.ID a1) (fun r1 => ?_)))
  exact SimI.rd 1 [(4, qj r1)] [] (.thenN (.ret .fn))


-- 84: slices.BinarySearchFunc[[]vedette/api.Thing,vedette/api.Thing,int]
def F84s0_e (a0 : (List Thing)) (a1 : Int) : (Int × Bool) → PV × List Ob := fun r => (.tup [.one (li .i64 r.1), .one (lb r.2)], [])
def F84s0_l7 (n : Nat) (a0 : (List Thing)) (a1 : Int) : Nat → Int → Int → Option (Int × Bool)
  | 0, _, _ => none
  | m + 1, i5, i6 =>
    if decide (i5 < i6) then
      (ix a0 (IntKind.wrap .i64 (shrI .u64 (IntKind.wrap .u64 (IntKind.wrap .i64 (i5 + i6))) 1))).bind fun (x8 : Thing) =>
      (F85 n x8 a1).bind fun (r9 : Int) =>
      if decide (r9 < 0) then
        (F84s0_l7 n a0 a1 m) (IntKind.wrap .i64 (IntKind.wrap .i64 (shrI .u64 (IntKind.wrap .u64 (IntKind.wrap .i64 (i5 + i6))) 1) + 1)) i6
      else
        (F84s0_l7 n a0 a1 m) i5 (IntKind.wrap .i64 (shrI .u64 (IntKind.wrap .u64 (IntKind.wrap .i64 (i5 + i6))) 1))
    else
      if decide (i5 < ((a0).length : Int)) then
        (ix a0 i5).bind fun (x10 : Thing) =>
        (F85 n x10 a1).bind fun (r11 : Int) =>
        some (i5, (r11 == 0))
      else
        some (i5, false)
theorem F84s0_l7_ok (n : Nat) (a0 : (List Thing)) (a1 : Int) : ∀ (m : Nat) (i5 : Int) (i6 : Int), SimL Try.prog D (n + 8) m pc84_c17 [(0, .one (vw Thing.cod a0)), (1, qj a1), (2, .one (.val (.func (.func 85) #[] #[]))), (8, qj ((a0).length : Int)), (9, qj i5), (10, qj i6)] [] (F84s0_l7 n a0 a1 m i5 i6) (QB 0 (QT Try.prog D (n + 8) pc84_c22 (QF false pc84_r 0 (F84s0_e a0 a1)))) := by
  intro m_l7
  induction m_l7 with
  | zero => intro i5 i6; exact SimL.zero'  rfl
  | succ m_l7 ih_l7 =>
    intro i5 i6
    refine SimL.succ ?_
    unfold F84s0_l7
    refine Sim.seq (.seq (.rg [(0, .one (vw Thing.cod a0)), (1, qj a1), (2, .one (.val (.func (.func 85) #[] #[]))), (8, qj ((a0).length : Int)), (9, qj i5), (10, qj i6)] [] (.rd 3 [(17, qb (decide (i5 < i6))), (16, qj i6), (15, qj i5)] [] (.thenN (.cond (decide (i5 < i6)) (by kernel_rfl) ?_ ?_)))))
    · refine Sim.skip (.thenN (.block (.sr 7 [(11, qj (IntKind.wrap .i64 (shrI .u64 (IntKind.wrap .u64 (IntKind.wrap .i64 (i5 + i6))) 1))), (23, qj (IntKind.wrap .i64 (shrI .u64 (IntKind.wrap .u64 (IntKind.wrap .i64 (i5 + i6))) 1))), (22, .one (li .u64 (shrI .u64 (IntKind.wrap .u64 (IntKind.wrap .i64 (i5 + i6))) 1))), (21, .one (li .u64 (IntKind.wrap .u64 (IntKind.wrap .i64 (i5 + i6))))), (20, qj (IntKind.wrap .i64 (i5 + i6))), (19, qj i6), (18, qj i5)] [] (.st 3 [(26, qj (IntKind.wrap .i64 (shrI .u64 (IntKind.wrap .u64 (IntKind.wrap .i64 (i5 + i6))) 1))), (25, .one (vw Thing.cod a0)), (24, .one (.val (.func (.func 85) #[] #[])))] [] (.bind (og := ix a0 (IntKind.wrap .i64 (shrI .u64 (IntKind.wrap .u64 (IntKind.wrap .i64 (i5 + i6))) 1))) ⟨some 27, POp.iaddrS 11 (Operand.tmp 25) (Operand.tmp 26), none, []⟩ (fun x8 => [(27, .one (.eptr (Thing.cod.enc x8) 0))]) (fun x8 => []) (by kernel_rfl) (fun x8 hr => pOp_eff (by kernel_rfl) (by kernel_rfl) (eff_idx (c := Thing.cod) (l := a0) (k := .i64) (n := IntKind.wrap .i64 (shrI .u64 (IntKind.wrap .u64 (IntKind.wrap .i64 (i5 + i6))) 1)) (by kernel_rfl) (by kernel_rfl) (by kernel_rfl) hr)) (fun x8 => ?_))))))
      refine SimI.rn 2 [(29, qj a1), (28, .agg (Thing.cells x8))] [] (.bind (og := F85 n x8 a1) ⟨some 30, POp.callv true [[], []] (Operand.tmp 24) [Operand.tmp 28, Operand.tmp 29], none, []⟩ (fun r9 => [(30, qj r9)]) (fun r9 => []) (by kernel_rfl) (fun r9 hr => pOp_eff (by kernel_rfl) (by kernel_rfl) (eff_callvv (by kernel_rfl) (ARGS := [.agg (Thing.cells x8), qj a1]) (by kernel_rfl) (args_clean (by kernel_rfl) (args_clean (by kernel_rfl) args_nil)) (F85_ok n x8 a1 r9 hr) (by kernel_rfl))) (fun r9 => ?_))
      refine SimI.rd 1 [(31, qb (decide (r9 < 0)))] [] (.thenN (.cond (decide (r9 < 0)) (by kernel_rfl) ?_ ?_))
      · refine Sim.region0 (.rd 3 [(9, qj (IntKind.wrap .i64 (IntKind.wrap .i64 (shrI .u64 (IntKind.wrap .u64 (IntKind.wrap .i64 (i5 + i6))) 1) + 1))), (33, qj (IntKind.wrap .i64 (IntKind.wrap .i64 (shrI .u64 (IntKind.wrap .u64 (IntKind.wrap .i64 (i5 + i6))) 1) + 1))), (32, qj (IntKind.wrap .i64 (shrI .u64 (IntKind.wrap .u64 (IntKind.wrap .i64 (i5 + i6))) 1)))] [] (.blockN (.loopN (.pr [0, 1, 2, 8, 9, 10] [] [] [(0, .one (vw Thing.cod a0)), (1, qj a1), (2, .one (.val (.func (.func 85) #[] #[]))), (8, qj ((a0).length : Int)), (9, qj (IntKind.wrap .i64 (IntKind.wrap .i64 (shrI .u64 (IntKind.wrap .u64 (IntKind.wrap .i64 (i5 + i6))) 1) + 1))), (10, qj i6)] [] ?_))))
        exact ih_l7 (IntKind.wrap .i64 (IntKind.wrap .i64 (shrI .u64 (IntKind.wrap .u64 (IntKind.wrap .i64 (i5 + i6))) 1) + 1)) i6
      · refine Sim.region0 (.rd 2 [(10, qj (IntKind.wrap .i64 (shrI .u64 (IntKind.wrap .u64 (IntKind.wrap .i64 (i5 + i6))) 1))), (34, qj (IntKind.wrap .i64 (shrI .u64 (IntKind.wrap .u64 (IntKind.wrap .i64 (i5 + i6))) 1)))] [] (.blockN (.loopN (.pr [0, 1, 2, 8, 9, 10] [] [] [(0, .one (vw Thing.cod a0)), (1, qj a1), (2, .one (.val (.func (.func 85) #[] #[]))), (8, qj ((a0).length : Int)), (9, qj i5), (10, qj (IntKind.wrap .i64 (shrI .u64 (IntKind.wrap .u64 (IntKind.wrap .i64 (i5 + i6))) 1)))] [] ?_))))
        exact ih_l7 i5 (IntKind.wrap .i64 (shrI .u64 (IntKind.wrap .u64 (IntKind.wrap .i64 (i5 + i6))) 1))
    · refine Sim.exit (.thenX (.loopX (.blockX (.thenN (.st 5 [(39, qb (decide (i5 < ((a0).length : Int)))), (38, qb (decide (i5 < ((a0).length : Int)))), (37, qj ((a0).length : Int)), (36, qj i5), (35, qj i5)] [] (.split 39 (decide (i5 < ((a0).length : Int))) (by kernel_rfl) ?_ ?_))))))
      · refine SimI.rn 3 [(42, qj i5), (41, .one (vw Thing.cod a0)), (40, .one (.val (.func (.func 85) #[] #[])))] [] (.bind (og := ix a0 i5) ⟨some 43, POp.iaddrS 11 (Operand.tmp 41) (Operand.tmp 42), some (39, true), []⟩ (fun x10 => [(43, .one (.eptr (Thing.cod.enc x10) 0))]) (fun x10 => []) (by kernel_rfl) (fun x10 hr => pOp_eff (by kernel_rfl) (by kernel_rfl) (eff_idx (c := Thing.cod) (l := a0) (k := .i64) (n := i5) (by kernel_rfl) (by kernel_rfl) (by kernel_rfl) hr)) (fun x10 => ?_))
        refine SimI.rn 2 [(45, qj a1), (44, .agg (Thing.cells x10))] [] (.bind (og := F85 n x10 a1) ⟨some 46, POp.callv true [[], []] (Operand.tmp 40) [Operand.tmp 44, Operand.tmp 45], some (39, true), []⟩ (fun r11 => [(46, qj r11)]) (fun r11 => []) (by kernel_rfl) (fun r11 hr => pOp_eff (by kernel_rfl) (by kernel_rfl) (eff_callvv (by kernel_rfl) (ARGS := [.agg (Thing.cells x10), qj a1]) (by kernel_rfl) (args_clean (by kernel_rfl) (args_clean (by kernel_rfl) args_nil)) (F85_ok n x10 a1 r11 hr) (by kernel_rfl))) (fun r11 => ?_))
        exact SimI.rd 4 [(7, qb (r11 == 0)), (6, qj i5), (48, qb (r11 == 0)), (47, qb (r11 == 0))] [] (.thenN (.ret .fn))
      · exact SimI.rd 11 [(7, qb false), (6, qj i5), (48, qb false), (47, .tup []), (46, .tup []), (45, .tup []), (44, .tup []), (43, .tup []), (42, .tup []), (41, .tup []), (40, .tup [])] [] (.thenN (.ret .fn))

def F84s0 (n : Nat) (a0 : (List Thing)) (a1 : Int) : Option (Int × Bool) :=
  F84s0_l7 n a0 a1 (n + 8) 0 ((a0).length : Int)
theorem F84s0_ok (n : Nat) (a0 : (List Thing)) (a1 : Int) : ∀ r, F84s0 n a0 a1 = some r → D 84 [.one (vw Thing.cod a0), .one (li .i64 a1), .one (.val (.func (.func 85) #[] #[]))] [] = some ((F84s0_e a0 a1) r) := by
  refine fn_to (D := D) (n := n + 8) (nt := 49) (rs := pc84_r) (c := pc84_c26) (L := [(0, .one (vw Thing.cod a0)), (1, qj a1), (2, .one (.val (.func (.func 85) #[] #[])))]) (M := []) (k := 0) rfl rfl rfl rfl rfl rfl rfl ?_
  unfold F84s0
  refine Sim.sr 2 [(7, qb false), (6, qj 0)] [] (.sr 3 [(8, qj ((a0).length : Int)), (13, qj ((a0).length : Int)), (12, .one (vw Thing.cod a0))] [] (.sr 3 [(10, qj ((a0).length : Int)), (9, qj 0), (14, qj ((a0).length : Int))] [] (.seq (.block (.loop (.pr [0, 1, 2, 8, 9, 10] [] [] [(0, .one (vw Thing.cod a0)), (1, qj a1), (2, .one (.val (.func (.func 85) #[] #[]))), (8, qj ((a0).length : Int)), (9, qj 0), (10, qj ((a0).length : Int))] [] ?_))))))
  exact F84s0_l7_ok n a0 a1 (n + 8) 0 ((a0).length : Int)


-- 88: vedette/fields.Apply
def F88_e : Thing → PV × List Ob := fun r => (.agg (Thing.cells r), [])
def F88_u14 (n : Nat) (g13 : Thing) : Option Thing :=
    some g13
theorem F88_u14_ok (n : Nat) (a1 : Delta) (g13 : Thing) : SimL Try.prog D (n + 8) (n + 4) pc88_c23 [(2, qp 2 0), (3, qp 3 0), (4, qp 4 0), (15, .agg (A4_Field.cells a1.F)), (16, qj 4)] [(2, some (.cells (Thing.cells g13))), (3, some (.cells (Delta.cells a1))), (4, some (.cells [lj 0, lj 0, lj 0, lj 0, ls be, lj 0, ls be, lj 0, ls be, lj 0, ls be]))] (F88_u14 n g13) (QB 0 (QT Try.prog D (n + 8) pc88_c29 (QF false pc88_r 0 F88_e))) := by
    unfold F88_u14
    exact SimL.succ (.seq (.rg [(2, qp 2 0), (3, qp 3 0), (4, qp 4 0), (15, .agg (A4_Field.cells a1.F)), (16, qj 4)] [(2, some (.cells (Thing.cells g13))), (3, some (.cells (Delta.cells a1))), (4, some (.cells [lj 0, lj 0, lj 0, lj 0, ls be, lj 0, ls be, lj 0, ls be, lj 0, ls be]))] (.rd 1 [(17, qb false)] [] (.thenN (.seq (.condF (by kernel_rfl) (.exit (.thenX (.loopX (.blockX (.thenN (.sr 2 [(29, .agg (Thing.cells g13))] [(4, some (.cells (Thing.cells g13)))] (.ret .fn)))))))))))))

def F88_u11 (n : Nat) (a0 : Thing) (a1 : Delta) (g10 : Thing) : Option Thing :=
    (F99 n a1.Mask 3).bind fun (r12 : Bool) =>
    if r12 then
      F88_u14 n (Thing.mk g10.ID g10.At (A4.mk g10.F.a0 g10.F.a1 g10.F.a2 a1.F.a3))
    else
      F88_u14 n g10
theorem F88_u11_ok (n : Nat) (a0 : Thing) (a1 : Delta) (g10 : Thing) : SimL Try.prog D (n + 8) (n + 5) pc88_c23 [(2, qp 2 0), (3, qp 3 0), (4, qp 4 0), (15, .agg (A4_Field.cells a1.F)), (16, qj 3)] [(2, some (.cells (Thing.cells g10))), (3, some (.cells (Delta.cells a1))), (4, some (.cells [lj 0, lj 0, lj 0, lj 0, ls be, lj 0, ls be, lj 0, ls be, lj 0, ls be]))] (F88_u11 n a0 a1 g10) (QB 0 (QT Try.prog D (n + 8) pc88_c29 (QF false pc88_r 0 F88_e))) := by
    unfold F88_u11
    refine SimL.succ (.seq (.rg [(2, qp 2 0), (3, qp 3 0), (4, qp 4 0), (15, .agg (A4_Field.cells a1.F)), (16, qj 3)] [(2, some (.cells (Thing.cells g10))), (3, some (.cells (Delta.cells a1))), (4, some (.cells [lj 0, lj 0, lj 0, lj 0, ls be, lj 0, ls be, lj 0, ls be, lj 0, ls be]))] (.rd 1 [(17, qb true)] [] (.thenN (.seq (.condT (by kernel_rfl) (.skip (.thenN (.seq (.block (.sr 5 [(5, qj 3), (6, qp 6 0), (19, .agg [lj a1.F.a3.N, ls a1.F.a3.Text]), (18, qj 3)] [(6, some (.cells [lj a1.F.a3.N, ls a1.F.a3.Text])), (6, some (.cells [lj 0, ls be]))] (.st 3 [(22, qj 3), (21, .one (li .u8 a1.Mask)), (20, qp 3 1)] [] (.cl 23 true [[], []] 99 [Operand.tmp 21, Operand.tmp 22] none (fun r12 => qb r12) [.one (li .u8 a1.Mask), qj 3] (F99_ok n a1.Mask 3) (fun r12 => ?_))))))))))))))
    refine SimI.dn (.thenN (.cond r12 (by kernel_rfl) ?_ ?_))
    · refine Sim.region0 (.rd 5 [(27, qp 2 9), (26, qp 2 3), (25, .agg [lj a1.F.a3.N, ls a1.F.a3.Text]), (24, qj 3)] [(2, some (.cells [lj g10.ID, lj g10.At.X, lj g10.At.Y, lj g10.F.a0.N, ls g10.F.a0.Text, lj g10.F.a1.N, ls g10.F.a1.Text, lj g10.F.a2.N, ls g10.F.a2.Text, lj a1.F.a3.N, ls a1.F.a3.Text]))] (.blockN (.thenN (.region0 (.rd 2 [(16, qj 4), (28, qj 4)] [] (.loopN (.pr [2, 3, 4, 15, 16] [2, 3, 4, 6] [] [(2, qp 2 0), (3, qp 3 0), (4, qp 4 0), (15, .agg (A4_Field.cells a1.F)), (16, qj 4)] [(2, some (.cells [lj g10.ID, lj g10.At.X, lj g10.At.Y, lj g10.F.a0.N, ls g10.F.a0.Text, lj g10.F.a1.N, ls g10.F.a1.Text, lj g10.F.a2.N, ls g10.F.a2.Text, lj a1.F.a3.N, ls a1.F.a3.Text])), (3, some (.cells (Delta.cells a1))), (4, some (.cells [lj 0, lj 0, lj 0, lj 0, ls be, lj 0, ls be, lj 0, ls be, lj 0, ls be]))] ?_)))))))
      exact F88_u14_ok n a1 (Thing.mk g10.ID g10.At (A4.mk g10.F.a0 g10.F.a1 g10.F.a2 a1.F.a3))
    · refine Sim.skip (.blockN (.thenN (.region0 (.rd 2 [(16, qj 4), (28, qj 4)] [] (.loopN (.pr [2, 3, 4, 15, 16] [2, 3, 4, 6] [] [(2, qp 2 0), (3, qp 3 0), (4, qp 4 0), (15, .agg (A4_Field.cells a1.F)), (16, qj 4)] [(2, some (.cells (Thing.cells g10))), (3, some (.cells (Delta.cells a1))), (4, some (.cells [lj 0, lj 0, lj 0, lj 0, ls be, lj 0, ls be, lj 0, ls be, lj 0, ls be]))] ?_))))))
      exact F88_u14_ok n a1 g10

def F88_u8 (n : Nat) (a0 : Thing) (a1 : Delta) (g7 : Thing) : Option Thing :=
    (F99 n a1.Mask 2).bind fun (r9 : Bool) =>
    if r9 then
      F88_u11 n a0 a1 (Thing.mk g7.ID g7.At (A4.mk g7.F.a0 g7.F.a1 a1.F.a2 g7.F.a3))
    else
      F88_u11 n a0 a1 g7
theorem F88_u8_ok (n : Nat) (a0 : Thing) (a1 : Delta) (g7 : Thing) : SimL Try.prog D (n + 8) (n + 6) pc88_c23 [(2, qp 2 0), (3, qp 3 0), (4, qp 4 0), (15, .agg (A4_Field.cells a1.F)), (16, qj 2)] [(2, some (.cells (Thing.cells g7))), (3, some (.cells (Delta.cells a1))), (4, some (.cells [lj 0, lj 0, lj 0, lj 0, ls be, lj 0, ls be, lj 0, ls be, lj 0, ls be]))] (F88_u8 n a0 a1 g7) (QB 0 (QT Try.prog D (n + 8) pc88_c29 (QF false pc88_r 0 F88_e))) := by
    unfold F88_u8
    refine SimL.succ (.seq (.rg [(2, qp 2 0), (3, qp 3 0), (4, qp 4 0), (15, .agg (A4_Field.cells a1.F)), (16, qj 2)] [(2, some (.cells (Thing.cells g7))), (3, some (.cells (Delta.cells a1))), (4, some (.cells [lj 0, lj 0, lj 0, lj 0, ls be, lj 0, ls be, lj 0, ls be, lj 0, ls be]))] (.rd 1 [(17, qb true)] [] (.thenN (.seq (.condT (by kernel_rfl) (.skip (.thenN (.seq (.block (.sr 5 [(5, qj 2), (6, qp 6 0), (19, .agg [lj a1.F.a2.N, ls a1.F.a2.Text]), (18, qj 2)] [(6, some (.cells [lj a1.F.a2.N, ls a1.F.a2.Text])), (6, some (.cells [lj 0, ls be]))] (.st 3 [(22, qj 2), (21, .one (li .u8 a1.Mask)), (20, qp 3 1)] [] (.cl 23 true [[], []] 99 [Operand.tmp 21, Operand.tmp 22] none (fun r9 => qb r9) [.one (li .u8 a1.Mask), qj 2] (F99_ok n a1.Mask 2) (fun r9 => ?_))))))))))))))
    refine SimI.dn (.thenN (.cond r9 (by kernel_rfl) ?_ ?_))
    · refine Sim.region0 (.rd 5 [(27, qp 2 7), (26, qp 2 3), (25, .agg [lj a1.F.a2.N, ls a1.F.a2.Text]), (24, qj 2)] [(2, some (.cells [lj g7.ID, lj g7.At.X, lj g7.At.Y, lj g7.F.a0.N, ls g7.F.a0.Text, lj g7.F.a1.N, ls g7.F.a1.Text, lj a1.F.a2.N, ls a1.F.a2.Text, lj g7.F.a3.N, ls g7.F.a3.Text]))] (.blockN (.thenN (.region0 (.rd 2 [(16, qj 3), (28, qj 3)] [] (.loopN (.pr [2, 3, 4, 15, 16] [2, 3, 4, 6] [] [(2, qp 2 0), (3, qp 3 0), (4, qp 4 0), (15, .agg (A4_Field.cells a1.F)), (16, qj 3)] [(2, some (.cells [lj g7.ID, lj g7.At.X, lj g7.At.Y, lj g7.F.a0.N, ls g7.F.a0.Text, lj g7.F.a1.N, ls g7.F.a1.Text, lj a1.F.a2.N, ls a1.F.a2.Text, lj g7.F.a3.N, ls g7.F.a3.Text])), (3, some (.cells (Delta.cells a1))), (4, some (.cells [lj 0, lj 0, lj 0, lj 0, ls be, lj 0, ls be, lj 0, ls be, lj 0, ls be]))] ?_)))))))
      exact F88_u11_ok n a0 a1 (Thing.mk g7.ID g7.At (A4.mk g7.F.a0 g7.F.a1 a1.F.a2 g7.F.a3))
    · refine Sim.skip (.blockN (.thenN (.region0 (.rd 2 [(16, qj 3), (28, qj 3)] [] (.loopN (.pr [2, 3, 4, 15, 16] [2, 3, 4, 6] [] [(2, qp 2 0), (3, qp 3 0), (4, qp 4 0), (15, .agg (A4_Field.cells a1.F)), (16, qj 3)] [(2, some (.cells (Thing.cells g7))), (3, some (.cells (Delta.cells a1))), (4, some (.cells [lj 0, lj 0, lj 0, lj 0, ls be, lj 0, ls be, lj 0, ls be, lj 0, ls be]))] ?_))))))
      exact F88_u11_ok n a0 a1 g7

def F88_u5 (n : Nat) (a0 : Thing) (a1 : Delta) (g4 : Thing) : Option Thing :=
    (F99 n a1.Mask 1).bind fun (r6 : Bool) =>
    if r6 then
      F88_u8 n a0 a1 (Thing.mk g4.ID g4.At (A4.mk g4.F.a0 a1.F.a1 g4.F.a2 g4.F.a3))
    else
      F88_u8 n a0 a1 g4
theorem F88_u5_ok (n : Nat) (a0 : Thing) (a1 : Delta) (g4 : Thing) : SimL Try.prog D (n + 8) (n + 7) pc88_c23 [(2, qp 2 0), (3, qp 3 0), (4, qp 4 0), (15, .agg (A4_Field.cells a1.F)), (16, qj 1)] [(2, some (.cells (Thing.cells g4))), (3, some (.cells (Delta.cells a1))), (4, some (.cells [lj 0, lj 0, lj 0, lj 0, ls be, lj 0, ls be, lj 0, ls be, lj 0, ls be]))] (F88_u5 n a0 a1 g4) (QB 0 (QT Try.prog D (n + 8) pc88_c29 (QF false pc88_r 0 F88_e))) := by
    unfold F88_u5
    refine SimL.succ (.seq (.rg [(2, qp 2 0), (3, qp 3 0), (4, qp 4 0), (15, .agg (A4_Field.cells a1.F)), (16, qj 1)] [(2, some (.cells (Thing.cells g4))), (3, some (.cells (Delta.cells a1))), (4, some (.cells [lj 0, lj 0, lj 0, lj 0, ls be, lj 0, ls be, lj 0, ls be, lj 0, ls be]))] (.rd 1 [(17, qb true)] [] (.thenN (.seq (.condT (by kernel_rfl) (.skip (.thenN (.seq (.block (.sr 5 [(5, qj 1), (6, qp 6 0), (19, .agg [lj a1.F.a1.N, ls a1.F.a1.Text]), (18, qj 1)] [(6, some (.cells [lj a1.F.a1.N, ls a1.F.a1.Text])), (6, some (.cells [lj 0, ls be]))] (.st 3 [(22, qj 1), (21, .one (li .u8 a1.Mask)), (20, qp 3 1)] [] (.cl 23 true [[], []] 99 [Operand.tmp 21, Operand.tmp 22] none (fun r6 => qb r6) [.one (li .u8 a1.Mask), qj 1] (F99_ok n a1.Mask 1) (fun r6 => ?_))))))))))))))
    refine SimI.dn (.thenN (.cond r6 (by kernel_rfl) ?_ ?_))
    · refine Sim.region0 (.rd 5 [(27, qp 2 5), (26, qp 2 3), (25, .agg [lj a1.F.a1.N, ls a1.F.a1.Text]), (24, qj 1)] [(2, some (.cells [lj g4.ID, lj g4.At.X, lj g4.At.Y, lj g4.F.a0.N, ls g4.F.a0.Text, lj a1.F.a1.N, ls a1.F.a1.Text, lj g4.F.a2.N, ls g4.F.a2.Text, lj g4.F.a3.N, ls g4.F.a3.Text]))] (.blockN (.thenN (.region0 (.rd 2 [(16, qj 2), (28, qj 2)] [] (.loopN (.pr [2, 3, 4, 15, 16] [2, 3, 4, 6] [] [(2, qp 2 0), (3, qp 3 0), (4, qp 4 0), (15, .agg (A4_Field.cells a1.F)), (16, qj 2)] [(2, some (.cells [lj g4.ID, lj g4.At.X, lj g4.At.Y, lj g4.F.a0.N, ls g4.F.a0.Text, lj a1.F.a1.N, ls a1.F.a1.Text, lj g4.F.a2.N, ls g4.F.a2.Text, lj g4.F.a3.N, ls g4.F.a3.Text])), (3, some (.cells (Delta.cells a1))), (4, some (.cells [lj 0, lj 0, lj 0, lj 0, ls be, lj 0, ls be, lj 0, ls be, lj 0, ls be]))] ?_)))))))
      exact F88_u8_ok n a0 a1 (Thing.mk g4.ID g4.At (A4.mk g4.F.a0 a1.F.a1 g4.F.a2 g4.F.a3))
    · refine Sim.skip (.blockN (.thenN (.region0 (.rd 2 [(16, qj 2), (28, qj 2)] [] (.loopN (.pr [2, 3, 4, 15, 16] [2, 3, 4, 6] [] [(2, qp 2 0), (3, qp 3 0), (4, qp 4 0), (15, .agg (A4_Field.cells a1.F)), (16, qj 2)] [(2, some (.cells (Thing.cells g4))), (3, some (.cells (Delta.cells a1))), (4, some (.cells [lj 0, lj 0, lj 0, lj 0, ls be, lj 0, ls be, lj 0, ls be, lj 0, ls be]))] ?_))))))
      exact F88_u8_ok n a0 a1 g4

def F88_j2 (n : Nat) (a0 : Thing) (a1 : Delta) (g1 : Thing) : Option Thing :=
    (F99 n a1.Mask 0).bind fun (r3 : Bool) =>
    if r3 then
      F88_u5 n a0 a1 (Thing.mk g1.ID g1.At (A4.mk a1.F.a0 g1.F.a1 g1.F.a2 g1.F.a3))
    else
      F88_u5 n a0 a1 g1
theorem F88_j2_ok (n : Nat) (a0 : Thing) (a1 : Delta) (g1 : Thing) : Sim Try.prog D (n + 8) pc88_c30 [(2, qp 2 0), (3, qp 3 0), (4, qp 4 0)] [(2, some (.cells (Thing.cells g1))), (3, some (.cells (Delta.cells a1))), (4, some (.cells [lj 0, lj 0, lj 0, lj 0, ls be, lj 0, ls be, lj 0, ls be, lj 0, ls be]))] (F88_j2 n a0 a1 g1) (QF false pc88_r 0 F88_e) := by
    unfold F88_j2
    refine Sim.seq (.seq (.rg [(2, qp 2 0), (3, qp 3 0), (4, qp 4 0)] [(2, some (.cells (Thing.cells g1))), (3, some (.cells (Delta.cells a1))), (4, some (.cells [lj 0, lj 0, lj 0, lj 0, ls be, lj 0, ls be, lj 0, ls be, lj 0, ls be]))] (.rd 3 [(16, qj 0), (15, .agg (A4_Field.cells a1.F)), (14, qp 3 4)] [] (.thenN (.block (.loop (.succ (.seq (.rg [(2, qp 2 0), (3, qp 3 0), (4, qp 4 0), (15, .agg (A4_Field.cells a1.F)), (16, qj 0)] [(2, some (.cells (Thing.cells g1))), (3, some (.cells (Delta.cells a1))), (4, some (.cells [lj 0, lj 0, lj 0, lj 0, ls be, lj 0, ls be, lj 0, ls be, lj 0, ls be]))] (.rd 1 [(17, qb true)] [] (.thenN (.seq (.condT (by kernel_rfl) (.skip (.thenN (.seq (.block (.sr 5 [(5, qj 0), (6, qp 6 0), (19, .agg [lj a1.F.a0.N, ls a1.F.a0.Text]), (18, qj 0)] [(6, some (.cells [lj a1.F.a0.N, ls a1.F.a0.Text])), (6, some (.cells [lj 0, ls be]))] (.st 3 [(22, qj 0), (21, .one (li .u8 a1.Mask)), (20, qp 3 1)] [] (.cl 23 true [[], []] 99 [Operand.tmp 21, Operand.tmp 22] none (fun r3 => qb r3) [.one (li .u8 a1.Mask), qj 0] (F99_ok n a1.Mask 0) (fun r3 => ?_)))))))))))))))))))))
    refine SimI.dn (.thenN (.cond r3 (by kernel_rfl) ?_ ?_))
    · refine Sim.region0 (.rd 5 [(27, qp 2 3), (26, qp 2 3), (25, .agg [lj a1.F.a0.N, ls a1.F.a0.Text]), (24, qj 0)] [(2, some (.cells [lj g1.ID, lj g1.At.X, lj g1.At.Y, lj a1.F.a0.N, ls a1.F.a0.Text, lj g1.F.a1.N, ls g1.F.a1.Text, lj g1.F.a2.N, ls g1.F.a2.Text, lj g1.F.a3.N, ls g1.F.a3.Text]))] (.blockN (.thenN (.region0 (.rd 2 [(16, qj 1), (28, qj 1)] [] (.loopN (.pr [2, 3, 4, 15, 16] [2, 3, 4, 6] [] [(2, qp 2 0), (3, qp 3 0), (4, qp 4 0), (15, .agg (A4_Field.cells a1.F)), (16, qj 1)] [(2, some (.cells [lj g1.ID, lj g1.At.X, lj g1.At.Y, lj a1.F.a0.N, ls a1.F.a0.Text, lj g1.F.a1.N, ls g1.F.a1.Text, lj g1.F.a2.N, ls g1.F.a2.Text, lj g1.F.a3.N, ls g1.F.a3.Text])), (3, some (.cells (Delta.cells a1))), (4, some (.cells [lj 0, lj 0, lj 0, lj 0, ls be, lj 0, ls be, lj 0, ls be, lj 0, ls be]))] ?_)))))))
      exact F88_u5_ok n a0 a1 (Thing.mk g1.ID g1.At (A4.mk a1.F.a0 g1.F.a1 g1.F.a2 g1.F.a3))
    · refine Sim.skip (.blockN (.thenN (.region0 (.rd 2 [(16, qj 1), (28, qj 1)] [] (.loopN (.pr [2, 3, 4, 15, 16] [2, 3, 4, 6] [] [(2, qp 2 0), (3, qp 3 0), (4, qp 4 0), (15, .agg (A4_Field.cells a1.F)), (16, qj 1)] [(2, some (.cells (Thing.cells g1))), (3, some (.cells (Delta.cells a1))), (4, some (.cells [lj 0, lj 0, lj 0, lj 0, ls be, lj 0, ls be, lj 0, ls be, lj 0, ls be]))] ?_))))))
      exact F88_u5_ok n a0 a1 g1

def F88 (n : Nat) (a0 : Thing) (a1 : Delta) : Option Thing :=
  if (bitsI .and .u8 a1.Mask 1) != 0 then
    F88_j2 n a0 a1 (Thing.mk a0.ID a1.At a0.F)
  else
    F88_j2 n a0 a1 a0
theorem F88_ok (n : Nat) (a0 : Thing) (a1 : Delta) : ∀ r, F88 n a0 a1 = some r → D 88 [.agg (Thing.cells a0), .agg (Delta.cells a1)] [] = some (F88_e r) := by
  refine fn_to (D := D) (n := n + 8) (nt := 30) (rs := pc88_r) (c := pc88_c32) (L := [(0, .agg (Thing.cells a0)), (1, .agg (Delta.cells a1))]) (M := []) (k := 0) rfl rfl rfl rfl rfl rfl rfl ?_
  unfold F88
  refine Sim.sr 3 [(4, qp 4 0), (3, qp 3 0), (2, qp 2 0)] [(4, some (.cells [lj 0, lj 0, lj 0, lj 0, ls be, lj 0, ls be, lj 0, ls be, lj 0, ls be])), (3, some (.cells (Delta.cells a1))), (2, some (.cells (Thing.cells a0)))] (.seq (.sr 4 [(10, qb ((bitsI .and .u8 a1.Mask 1) != 0)), (9, .one (li .u8 (bitsI .and .u8 a1.Mask 1))), (8, .one (li .u8 a1.Mask)), (7, qp 3 1)] [] (.cond ((bitsI .and .u8 a1.Mask 1) != 0) (by kernel_rfl) ?_ ?_)))
  · refine Sim.region0 (.rd 4 [(13, qp 2 1), (12, .agg [lj a1.At.X, lj a1.At.Y]), (11, qp 3 2)] [(2, some (.cells [lj a0.ID, lj a1.At.X, lj a1.At.Y, lj a0.F.a0.N, ls a0.F.a0.Text, lj a0.F.a1.N, ls a0.F.a1.Text, lj a0.F.a2.N, ls a0.F.a2.Text, lj a0.F.a3.N, ls a0.F.a3.Text]))] (.thenN (.pr [2, 3, 4] [2, 3, 4] [] [(2, qp 2 0), (3, qp 3 0), (4, qp 4 0)] [(2, some (.cells [lj a0.ID, lj a1.At.X, lj a1.At.Y, lj a0.F.a0.N, ls a0.F.a0.Text, lj a0.F.a1.N, ls a0.F.a1.Text, lj a0.F.a2.N, ls a0.F.a2.Text, lj a0.F.a3.N, ls a0.F.a3.Text])), (3, some (.cells (Delta.cells a1))), (4, some (.cells [lj 0, lj 0, lj 0, lj 0, ls be, lj 0, ls be, lj 0, ls be, lj 0, ls be]))] ?_)))
    exact F88_j2_ok n a0 a1 (Thing.mk a0.ID a1.At a0.F)
  · refine Sim.skip (.thenN (.pr [2, 3, 4] [2, 3, 4] [] [(2, qp 2 0), (3, qp 3 0), (4, qp 4 0)] [(2, some (.cells (Thing.cells a0))), (3, some (.cells (Delta.cells a1))), (4, some (.cells [lj 0, lj 0, lj 0, lj 0, ls be, lj 0, ls be, lj 0, ls be, lj 0, ls be]))] ?_))
    exact F88_j2_ok n a0 a1 a0


-- 51: vedette/event.Apply
def F51_e : ((List Thing) × Bool) → PV × List Ob := fun r => (.tup [.one (vw Thing.cod r.1), .one (lb r.2)], [])
def F51 (n : Nat) (a0 : (List Thing)) (a1 : Event) : Option ((List Thing) × Bool) :=
  (F84s0 n a0 a1.ID).bind fun (r1 : (Int × Bool)) =>
  (F39 n a1).bind fun (r2 : Bool) =>
  if !(r2) then
    (cloneL a0).bind fun (l3 : (List Thing)) =>
    some (l3, false)
  else
    if r1.2 == (a1.Kind == 1) then
      (cloneL a0).bind fun (l4 : (List Thing)) =>
      some (l4, false)
    else
      (cloneL a0).bind fun (l5 : (List Thing)) =>
      if a1.Kind == 1 then
        (insL l5 r1.1 a1.Thing).bind fun (l6 : (List Thing)) =>
        some (l6, true)
      else
        if a1.Kind == 2 then
          (ix l5 r1.1).bind fun (x7 : Thing) =>
          (F88 n x7 a1.Delta).bind fun (r8 : Thing) =>
          (ix l5 r1.1).bind fun (x9 : Thing) =>
          some (((l5).set ((r1.1).toNat) r8), true)
        else
          (delL l5 r1.1 (IntKind.wrap .i64 (r1.1 + 1))).bind fun (l10 : (List Thing)) =>
          some (l10, true)
theorem F51_ok (n : Nat) (a0 : (List Thing)) (a1 : Event) : ∀ r, F51 n a0 a1 = some r → D 51 [.one (vw Thing.cod a0), .agg (Event.cells a1)] [] = some (F51_e r) := by
  refine fn_to (D := D) (n := n + 8) (nt := 58) (rs := pc51_r) (c := pc51_c30) (L := [(0, .one (vw Thing.cod a0)), (1, .agg (Event.cells a1))]) (M := []) (k := 0) rfl rfl rfl rfl rfl rfl rfl ?_
  unfold F51
  refine Sim.sr 3 [(5, qb false), (4, .one (lnil)), (3, qp 3 0)] [(3, some (.cells (Event.cells a1)))] (.st 3 [(12, qj a1.ID), (11, qp 3 1), (10, .one (vw Thing.cod a0))] [] (.bind (og := F84s0 n a0 a1.ID) ⟨some 13, POp.gcall false false [300000, 300001, 300002, 300003, 300004, 300005, 300006, 300007] [[(0, 11)], [], []] 84 [Operand.tmp 10, Operand.tmp 12, Operand.func 85], none, []⟩ (fun r1 => [(13, .tup [qj r1.1, qb r1.2])]) (fun r1 => []) (by kernel_rfl) (fun r1 hr => pOp_eff (by kernel_rfl) (by kernel_rfl) (eff_gcall (ks := []) (rks := []) (new := []) (ARGS := [.one (vw Thing.cod a0), qj a1.ID, .one (.val (.func (.func 85) #[] #[]))]) (args1 := [.one (vw Thing.cod a0), qj a1.ID, .one (.val (.func (.func 85) #[] #[]))]) (args2 := [.one (vw Thing.cod a0), qj a1.ID, .one (.val (.func (.func 85) #[] #[]))]) (os := []) (os' := []) (os1 := []) (res := .tup [qj r1.1, qb r1.2]) (res1 := .tup [qj r1.1, qb r1.2]) (r := .tup [qj r1.1, qb r1.2]) (N := []) (by kernel_rfl) (readA_ow (readA_keep (by kernel_rfl) (readA_keep (by kernel_rfl) (readA_keep (by kernel_rfl) (readA_nil))))) (by kernel_rfl) (by kernel_rfl) (by kernel_rfl) (by kernel_rfl) (F84s0_ok n a0 a1.ID r1 hr) (by kernel_rfl) (by kernel_rfl) (by kernel_rfl) rfl (by kernel_rfl) (by kernel_rfl) (by kernel_rfl))) (fun r1 => ?_)))
  refine SimI.rd 5 [(7, qb r1.2), (6, qj r1.1), (15, qb r1.2), (14, qj r1.1), (9, .tup [qj r1.1, qb r1.2])] [] (.thenN (.seq (.st 1 [(16, .agg (Event.cells a1))] [] (.cl 17 true [[]] 39 [Operand.tmp 16] none (fun r2 => qb r2) [.agg (Event.cells a1)] (F39_ok n a1) (fun r2 => ?_)))))
  refine SimI.rn 2 [(19, qb (!(r2))), (18, qb (!(r2)))] [] (.split 19 (!(r2)) (by kernel_rfl) ?_ ?_)
  · refine SimI.rd 6 [(25, qb true), (24, .tup []), (23, .tup []), (22, .tup []), (21, .tup []), (20, .tup [])] [] (.thenN (.condT (by kernel_rfl) (.st 1 [(26, .one (vw Thing.cod a0))] [] (.bind (og := cloneL a0) ⟨some 27, POp.gcall false false [300000, 300001, 300002, 300003, 300004, 300005, 300006, 300007] [[(0, 11)]] 78 [Operand.tmp 26], none, []⟩ (fun l3 => [(27, .one (.osl 300000 0 0 (l3).length))]) (fun l3 => [(300000, some (.arr 28 Thing.cod.sz 0 (l3).length (getOf Thing.cod l3)))]) (by kernel_rfl) (fun l3 hr => pOp_eff (by kernel_rfl) (by kernel_rfl) (eff_gcall (ks := []) (rks := []) (new := [300000]) (ARGS := [.one (vw Thing.cod a0)]) (args1 := [.one (vw Thing.cod a0)]) (args2 := [.one (vw Thing.cod a0)]) (os := []) (os' := [.arr 28 Thing.cod.sz 0 (l3).length (getOf Thing.cod l3)]) (os1 := [.arr 28 Thing.cod.sz 0 (l3).length (getOf Thing.cod l3)]) (res := .one (.osl 1000000 0 0 (l3).length)) (res1 := .one (.osl 1000000 0 0 (l3).length)) (r := .one (.osl 300000 0 0 (l3).length)) (N := [(300000, some (.arr 28 Thing.cod.sz 0 (l3).length (getOf Thing.cod l3)))]) (by kernel_rfl) (readA_ow (readA_keep (by kernel_rfl) (readA_nil))) (by kernel_rfl) (by kernel_rfl) (by kernel_rfl) (by kernel_rfl) (D_b78 (l := a0) (r := l3) hr) (by kernel_rfl) (by kernel_rfl) (by kernel_rfl) (by kernel_rfl) (by kernel_rfl) (by kernel_rfl) (by kernel_rfl))) (fun l3 => ?_)))))
    exact SimI.rd 2 [(5, qb false), (4, .one (.osl 300000 0 0 (l3).length))] [] (.thenN (.ret (.thenR (.fin (out_of (os := []) (ress_cons (resOf_own (c := Thing.cod) (k := 300000) (g := 0) (el := 28) (l := l3) (by kernel_rfl) (by kernel_rfl) (by kernel_rfl)) (ress_cons (v := qb false) (by kernel_rfl) (ress_nil))) (by kernel_rfl) rfl (by kernel_rfl))))))
  · refine SimI.rd 6 [(25, qb (r1.2 == (a1.Kind == 1))), (24, qb (r1.2 == (a1.Kind == 1))), (23, qb (a1.Kind == 1)), (22, qj a1.Kind), (21, qp 3 0), (20, qb r1.2)] [] (.thenN (.cond (r1.2 == (a1.Kind == 1)) (by kernel_rfl) ?_ ?_))
    · refine Sim.st 1 [(26, .one (vw Thing.cod a0))] [] (.bind (og := cloneL a0) ⟨some 27, POp.gcall false false [300000, 300001, 300002, 300003, 300004, 300005, 300006, 300007] [[(0, 11)]] 78 [Operand.tmp 26], none, []⟩ (fun l4 => [(27, .one (.osl 300000 0 0 (l4).length))]) (fun l4 => [(300000, some (.arr 28 Thing.cod.sz 0 (l4).length (getOf Thing.cod l4)))]) (by kernel_rfl) (fun l4 hr => pOp_eff (by kernel_rfl) (by kernel_rfl) (eff_gcall (ks := []) (rks := []) (new := [300000]) (ARGS := [.one (vw Thing.cod a0)]) (args1 := [.one (vw Thing.cod a0)]) (args2 := [.one (vw Thing.cod a0)]) (os := []) (os' := [.arr 28 Thing.cod.sz 0 (l4).length (getOf Thing.cod l4)]) (os1 := [.arr 28 Thing.cod.sz 0 (l4).length (getOf Thing.cod l4)]) (res := .one (.osl 1000000 0 0 (l4).length)) (res1 := .one (.osl 1000000 0 0 (l4).length)) (r := .one (.osl 300000 0 0 (l4).length)) (N := [(300000, some (.arr 28 Thing.cod.sz 0 (l4).length (getOf Thing.cod l4)))]) (by kernel_rfl) (readA_ow (readA_keep (by kernel_rfl) (readA_nil))) (by kernel_rfl) (by kernel_rfl) (by kernel_rfl) (by kernel_rfl) (D_b78 (l := a0) (r := l4) hr) (by kernel_rfl) (by kernel_rfl) (by kernel_rfl) (by kernel_rfl) (by kernel_rfl) (by kernel_rfl) (by kernel_rfl))) (fun l4 => ?_))
      exact SimI.rd 2 [(5, qb false), (4, .one (.osl 300000 0 0 (l4).length))] [] (.thenN (.ret (.thenR (.fin (out_of (os := []) (ress_cons (resOf_own (c := Thing.cod) (k := 300000) (g := 0) (el := 28) (l := l4) (by kernel_rfl) (by kernel_rfl) (by kernel_rfl)) (ress_cons (v := qb false) (by kernel_rfl) (ress_nil))) (by kernel_rfl) rfl (by kernel_rfl))))))
    · refine Sim.skip (.thenN (.st 1 [(28, .one (vw Thing.cod a0))] [] (.bind (og := cloneL a0) ⟨some 29, POp.gcall false false [300000, 300001, 300002, 300003, 300004, 300005, 300006, 300007] [[(0, 11)]] 78 [Operand.tmp 28], none, []⟩ (fun l5 => [(29, .one (.osl 300000 0 0 (l5).length))]) (fun l5 => [(300000, some (.arr 28 Thing.cod.sz 0 (l5).length (getOf Thing.cod l5)))]) (by kernel_rfl) (fun l5 hr => pOp_eff (by kernel_rfl) (by kernel_rfl) (eff_gcall (ks := []) (rks := []) (new := [300000]) (ARGS := [.one (vw Thing.cod a0)]) (args1 := [.one (vw Thing.cod a0)]) (args2 := [.one (vw Thing.cod a0)]) (os := []) (os' := [.arr 28 Thing.cod.sz 0 (l5).length (getOf Thing.cod l5)]) (os1 := [.arr 28 Thing.cod.sz 0 (l5).length (getOf Thing.cod l5)]) (res := .one (.osl 1000000 0 0 (l5).length)) (res1 := .one (.osl 1000000 0 0 (l5).length)) (r := .one (.osl 300000 0 0 (l5).length)) (N := [(300000, some (.arr 28 Thing.cod.sz 0 (l5).length (getOf Thing.cod l5)))]) (by kernel_rfl) (readA_ow (readA_keep (by kernel_rfl) (readA_nil))) (by kernel_rfl) (by kernel_rfl) (by kernel_rfl) (by kernel_rfl) (D_b78 (l := a0) (r := l5) hr) (by kernel_rfl) (by kernel_rfl) (by kernel_rfl) (by kernel_rfl) (by kernel_rfl) (by kernel_rfl) (by kernel_rfl))) (fun l5 => ?_))))
      refine SimI.rd 1 [(8, .one (.osl 300000 0 0 (l5).length))] [] (.thenN (.seq (.sr 2 [(31, qj a1.Kind), (30, qp 3 0)] [] (.block (.sr 2 [(37, qb (a1.Kind == 1)), (38, qb (a1.Kind == 1))] [] (.cond (a1.Kind == 1) (by kernel_rfl) ?_ ?_))))))
      · refine Sim.region0 (.rn 5 [(43, .one (.csl 43 11 0 1)), (42, .agg (Thing.cells a1.Thing)), (41, qp 3 2), (40, qj r1.1), (39, .one (.osl 300000 0 0 (l5).length))] [(43, some (.cells (Thing.cells a1.Thing)))] (.bind (og := insL l5 r1.1 a1.Thing) ⟨some 44, POp.gcall true false [43, 300000, 300001, 300002, 300003, 300004, 300005, 300006, 300007] [[(0, 11)], [], [(0, 11)]] 87 [Operand.tmp 39, Operand.tmp 40, Operand.tmp 43], none, []⟩ (fun l6 => [(44, .one (.osl 300000 (0 + 1) 0 (l6).length))]) (fun l6 => [(300000, some (.arr 28 Thing.cod.sz (0 + 1) (l6).length (getOf Thing.cod l6))), (43, some (.cells (Thing.cells a1.Thing)))]) (by kernel_rfl) (fun l6 hr => pOp_eff (by kernel_rfl) (by kernel_rfl) (eff_gcall (ks := [300000, 43]) (rks := []) (new := []) (ARGS := [.one (.osl 300000 0 0 (l5).length), qj r1.1, .one (.csl 43 11 0 1)]) (args1 := [.one (.osl 300000 0 0 (l5).length), qj r1.1, .one (.csl 43 11 0 1)]) (args2 := [.one (.osl 1000000 0 0 (l5).length), qj r1.1, .one (.csl 1000001 11 0 1)]) (os := [.arr 28 Thing.cod.sz 0 (l5).length (getOf Thing.cod l5), .cells (Thing.cells a1.Thing)]) (os' := [.arr 28 Thing.cod.sz 1 (l6).length (getOf Thing.cod l6), .cells (Thing.cells a1.Thing)]) (os1 := [.arr 28 Thing.cod.sz 1 (l6).length (getOf Thing.cod l6), .cells (Thing.cells a1.Thing)]) (res := .one (.osl 1000000 1 0 (l6).length)) (res1 := .one (.osl 1000000 1 0 (l6).length)) (r := .one (.osl 300000 (0 + 1) 0 (l6).length)) (N := [(300000, some (.arr 28 Thing.cod.sz (0 + 1) (l6).length (getOf Thing.cod l6))), (43, some (.cells (Thing.cells a1.Thing)))]) (by kernel_rfl) (by kernel_rfl) (by kernel_rfl) (by kernel_rfl) (by kernel_rfl) (by kernel_rfl) (D_b87 (l := l5) (i := r1.1) (a := a1.Thing) (r := l6) hr) (by kernel_rfl) (by kernel_rfl) (by kernel_rfl) (by kernel_rfl) (by kernel_rfl) (by kernel_rfl) (by kernel_rfl))) (fun l6 => ?_)))
        exact SimI.rd 1 [(8, .one (.osl 300000 (0 + 1) 0 (l6).length))] [] (.blockN (.thenN (.sr 3 [(5, qb true), (4, .one (.osl 300000 (0 + 1) 0 (l6).length)), (57, .one (.osl 300000 (0 + 1) 0 (l6).length))] [] (.ret (.fin (out_of (os := []) (ress_cons (resOf_own (c := Thing.cod) (k := 300000) (g := (0 + 1)) (el := 28) (l := l6) (by kernel_rfl) (by kernel_rfl) (by kernel_rfl)) (ress_cons (v := qb true) (by kernel_rfl) (ress_nil))) (by kernel_rfl) rfl (by kernel_rfl)))))))
      · refine Sim.sr 2 [(45, qb (a1.Kind == 2)), (46, qb (a1.Kind == 2))] [] (.cond (a1.Kind == 2) (by kernel_rfl) ?_ ?_)
        · refine Sim.region0 (.rn 4 [(50, qj r1.1), (49, .one (.osl 300000 0 0 (l5).length)), (48, qj r1.1), (47, .one (.osl 300000 0 0 (l5).length))] [] (.bindh (og := ix l5 r1.1) ⟨some 51, POp.iaddrS 11 (Operand.tmp 49) (Operand.tmp 50), none, [(49, Hint.obj 300000), (50, Hint.imm)]⟩ (fun x7 => [(51, .one (.aptr 300000 0 ((r1.1).toNat) 0))]) (fun x7 => []) (by kernel_rfl) (fun x7 hr => pOp_eff (by kernel_rfl) (by kernel_rfl) (eff_idxO (c := Thing.cod) (l := l5) (g := 0) (el := 28) (k := .i64) (n := r1.1) (by kernel_rfl) (by kernel_rfl) (by kernel_rfl) (by kernel_rfl) hr)) (fun x7 hx7 => ?_)))
          refine SimI.step ⟨some 52, POp.load true 11 (Operand.tmp 51), none, [(51, Hint.obj 300000)]⟩ [(52, .agg (Thing.cells x7))] [] (by kernel_rfl) (pOp_eff (by kernel_rfl) (by kernel_rfl) (eff_loadO (c := Thing.cod) (a := x7) (l := l5) (key := 300000) (g := 0) (el := 28) (off := 0) (i := (r1.1).toNat) (by kernel_rfl) (by kernel_rfl) (ix_some hx7).2.2.2 (by kernel_rfl))) (.rn 2 [(54, .agg (Delta.cells a1.Delta)), (53, qp 3 13)] [] (.bind (og := F88 n x7 a1.Delta) ⟨some 55, POp.call false [[], []] 88 [Operand.tmp 52, Operand.tmp 54], none, [(52, Hint.imm), (54, Hint.imm)]⟩ (fun r8 => [(55, .agg (Thing.cells r8))]) (fun r8 => []) (by kernel_rfl) (fun r8 hr => pOp_eff (by kernel_rfl) (by kernel_rfl) (eff_call (ARGS := [.agg (Thing.cells x7), .agg (Delta.cells a1.Delta)]) (by kernel_rfl) (args_clean (by kernel_rfl) (args_clean (by kernel_rfl) args_nil)) (F88_ok n x7 a1.Delta r8 hr) (by kernel_rfl))) (fun r8 => ?_)))
          refine SimI.bindh (og := ix l5 r1.1) ⟨some 56, POp.iaddrS 11 (Operand.tmp 47) (Operand.tmp 48), none, [(47, Hint.obj 300000), (48, Hint.imm)]⟩ (fun x9 => [(56, .one (.aptr 300000 0 ((r1.1).toNat) 0))]) (fun x9 => []) (by kernel_rfl) (fun x9 hr => pOp_eff (by kernel_rfl) (by kernel_rfl) (eff_idxO (c := Thing.cod) (l := l5) (g := 0) (el := 28) (k := .i64) (n := r1.1) (by kernel_rfl) (by kernel_rfl) (by kernel_rfl) (by kernel_rfl) hr)) (fun x9 hx9 => ?_)
          exact SimI.step ⟨none, POp.store 11 (Operand.tmp 56) (Operand.tmp 55), none, [(56, Hint.obj 300000), (55, Hint.imm)]⟩ [] [(300000, some (.arr 28 Thing.cod.sz 0 (((l5).set ((r1.1).toNat) r8)).length (getOf Thing.cod ((l5).set ((r1.1).toNat) r8))))] (by kernel_rfl) (pOp_eff_ (by kernel_rfl) (by kernel_rfl) (eff_storeO (c := Thing.cod) (key := 300000) (g := 0) (el := 28) (l := l5) (i := (r1.1).toNat) (b := r8) (by kernel_rfl) (by kernel_rfl) (by kernel_rfl) (ix_some hx9).2.2.1 (fun _ => rfl) rfl (by kernel_rfl))) (.slot 8 (.one (.osl 300000 0 0 (((l5).set ((r1.1).toNat) r8)).length)) (Eq.trans (b := PV.one (.osl 300000 0 0 (l5).length)) (by kernel_rfl) (congrArg (fun z => PV.one (Lf.osl 300000 0 0 z)) List.length_set.symm)) (.dn (.blockN (.thenN (.sr 3 [(5, qb true), (4, .one (.osl 300000 0 0 (((l5).set ((r1.1).toNat) r8)).length)), (57, .one (.osl 300000 0 0 (((l5).set ((r1.1).toNat) r8)).length))] [] (.ret (.fin (out_of (os := []) (ress_cons (resOf_own (c := Thing.cod) (k := 300000) (g := 0) (el := 28) (l := ((l5).set ((r1.1).toNat) r8)) (by kernel_rfl) (by kernel_rfl) (by kernel_rfl)) (ress_cons (v := qb true) (by kernel_rfl) (ress_nil))) (by kernel_rfl) rfl (by kernel_rfl)))))))))
        · refine Sim.region0 (.rn 4 [(35, qj (IntKind.wrap .i64 (r1.1 + 1))), (34, qj r1.1), (33, qj r1.1), (32, .one (.osl 300000 0 0 (l5).length))] [] (.bind (og := delL l5 r1.1 (IntKind.wrap .i64 (r1.1 + 1))) ⟨some 36, POp.gcall true false [300000, 300001, 300002, 300003, 300004, 300005, 300006, 300007] [[(0, 11)], [], []] 89 [Operand.tmp 32, Operand.tmp 33, Operand.tmp 35], none, []⟩ (fun l10 => [(36, .one (.osl 300000 (0 + 1) 0 (l10).length))]) (fun l10 => [(300000, some (.arr 28 Thing.cod.sz (0 + 1) (l10).length (getOf Thing.cod l10)))]) (by kernel_rfl) (fun l10 hr => pOp_eff (by kernel_rfl) (by kernel_rfl) (eff_gcall (ks := [300000]) (rks := []) (new := []) (ARGS := [.one (.osl 300000 0 0 (l5).length), qj r1.1, qj (IntKind.wrap .i64 (r1.1 + 1))]) (args1 := [.one (.osl 300000 0 0 (l5).length), qj r1.1, qj (IntKind.wrap .i64 (r1.1 + 1))]) (args2 := [.one (.osl 1000000 0 0 (l5).length), qj r1.1, qj (IntKind.wrap .i64 (r1.1 + 1))]) (os := [.arr 28 Thing.cod.sz 0 (l5).length (getOf Thing.cod l5)]) (os' := [.arr 28 Thing.cod.sz 1 (l10).length (getOf Thing.cod l10)]) (os1 := [.arr 28 Thing.cod.sz 1 (l10).length (getOf Thing.cod l10)]) (res := .one (.osl 1000000 1 0 (l10).length)) (res1 := .one (.osl 1000000 1 0 (l10).length)) (r := .one (.osl 300000 (0 + 1) 0 (l10).length)) (N := [(300000, some (.arr 28 Thing.cod.sz (0 + 1) (l10).length (getOf Thing.cod l10)))]) (by kernel_rfl) (by kernel_rfl) (by kernel_rfl) (by kernel_rfl) (by kernel_rfl) (by kernel_rfl) (D_b89 (l := l5) (i := r1.1) (j := IntKind.wrap .i64 (r1.1 + 1)) (r := l10) hr) (by kernel_rfl) (by kernel_rfl) (by kernel_rfl) (by kernel_rfl) (by kernel_rfl) (by kernel_rfl) (by kernel_rfl))) (fun l10 => ?_)))
          exact SimI.rd 1 [(8, .one (.osl 300000 (0 + 1) 0 (l10).length))] [] (.blockN (.thenN (.sr 3 [(5, qb true), (4, .one (.osl 300000 (0 + 1) 0 (l10).length)), (57, .one (.osl 300000 (0 + 1) 0 (l10).length))] [] (.ret (.fin (out_of (os := []) (ress_cons (resOf_own (c := Thing.cod) (k := 300000) (g := (0 + 1)) (el := 28) (l := l10) (by kernel_rfl) (by kernel_rfl) (by kernel_rfl)) (ress_cons (v := qb true) (by kernel_rfl) (ress_nil))) (by kernel_rfl) rfl (by kernel_rfl)))))))


-- 40: vedette/event.Fold
def F40_e : ((List Thing) × Bool) → PV × List Ob := fun r => (.tup [.one (vw Thing.cod r.1), .one (lb r.2)], [])
def F40_j16 (n : Nat) (a0 : (List Thing)) (l14 : (List Thing)) (b15 : Bool) : Option ((List Thing) × Bool) :=
    if !(b15) then
      (cloneL a0).bind fun (l17 : (List Thing)) =>
      some (l17, false)
    else
      some (l14, true)
theorem F40_j16_ok (n : Nat) (a0 : (List Thing)) (l14 : (List Thing)) (b15 : Bool) : Sim Try.prog D (n + 8) pc40_c36 [(0, .one (vw Thing.cod a0)), (6, .one (vw Thing.cod l14)), (7, qb b15)] [] (F40_j16 n a0 l14 b15) (QF false pc40_r 0 F40_e) := by
    unfold F40_j16
    refine Sim.seq (.seq (.rg [(0, .one (vw Thing.cod a0)), (6, .one (vw Thing.cod l14)), (7, qb b15)] [] (.rd 2 [(28, qb (!(b15))), (27, qb b15)] [] (.thenN (.cond (!(b15)) (by kernel_rfl) ?_ ?_)))))
    · refine Sim.st 1 [(29, .one (vw Thing.cod a0))] [] (.bind (og := cloneL a0) ⟨some 30, POp.gcall false true [300000, 300001, 300002, 300003, 300004, 300005, 300006, 300007] [[(0, 11)]] 78 [Operand.tmp 29], none, []⟩ (fun l17 => [(30, .one (vw Thing.cod l17))]) (fun l17 => []) (by kernel_rfl) (fun l17 hr => pOp_eff (by kernel_rfl) (by kernel_rfl) (eff_gcall (ks := []) (rks := []) (new := [300000]) (ARGS := [.one (vw Thing.cod a0)]) (args1 := [.one (vw Thing.cod a0)]) (args2 := [.one (vw Thing.cod a0)]) (os := []) (os' := [.arr 28 Thing.cod.sz 0 (l17).length (getOf Thing.cod l17)]) (os1 := [.arr 28 Thing.cod.sz 0 (l17).length (getOf Thing.cod l17)]) (res := .one (.osl 1000000 0 0 (l17).length)) (res1 := .one (vw Thing.cod l17)) (r := .one (vw Thing.cod l17)) (N := []) (by kernel_rfl) (readA_ow (readA_keep (by kernel_rfl) (readA_nil))) (by kernel_rfl) (by kernel_rfl) (by kernel_rfl) (by kernel_rfl) (D_b78 (l := a0) (r := l17) hr) (by kernel_rfl) (by kernel_rfl) (by kernel_rfl) (frz_new (c := Thing.cod) 28 l17) (by kernel_rfl) (by kernel_rfl) (by kernel_rfl))) (fun l17 => ?_))
      exact SimI.rd 2 [(5, qb false), (4, .one (vw Thing.cod l17))] [] (.thenN (.ret (.thenR .fn)))
    · exact Sim.skip (.thenN (.sr 3 [(5, qb true), (4, .one (vw Thing.cod l14)), (31, .one (vw Thing.cod l14))] [] (.ret .fn)))

def F40_l11 (n : Nat) (a0 : (List Thing)) (a1 : (List Event)) : Nat → (List Thing) → Bool → Int → Option ((List Thing) × Bool)
  | 0, _, _, _ => none
  | m + 1, l8, b9, i10 =>
    if decide (i10 < ((a1).length : Int)) then
      (ix a1 i10).bind fun (x12 : Event) =>
      (F51 n l8 x12).bind fun (r13 : ((List Thing) × Bool)) =>
      if !(r13.2) then
        F40_j16 n a0 r13.1 r13.2
      else
        (F40_l11 n a0 a1 m) r13.1 r13.2 (IntKind.wrap .i64 (i10 + 1))
    else
      F40_j16 n a0 l8 b9
theorem F40_l11_ok (n : Nat) (a0 : (List Thing)) (a1 : (List Event)) : ∀ (m : Nat) (l8 : (List Thing)) (b9 : Bool) (i10 : Int), SimL Try.prog D (n + 8) m pc40_c22 [(0, .one (vw Thing.cod a0)), (6, .one (vw Thing.cod l8)), (7, qb b9), (12, .one (vw Event.cod a1)), (13, qj ((a1).length : Int)), (14, qj i10)] [] (F40_l11 n a0 a1 m l8 b9 i10) (QB 0 (QT Try.prog D (n + 8) pc40_c36 (QF false pc40_r 0 F40_e))) := by
  intro m_l11
  induction m_l11 with
  | zero => intro l8 b9 i10; exact SimL.zero'  rfl
  | succ m_l11 ih_l11 =>
    intro l8 b9 i10
    refine SimL.succ ?_
    unfold F40_l11
    refine Sim.seq (.rg [(0, .one (vw Thing.cod a0)), (6, .one (vw Thing.cod l8)), (7, qb b9), (12, .one (vw Event.cod a1)), (13, qj ((a1).length : Int)), (14, qj i10)] [] (.rd 1 [(15, qb (decide (i10 < ((a1).length : Int))))] [] (.thenN (.seq (.cond (decide (i10 < ((a1).length : Int))) (by kernel_rfl) ?_ ?_)))))
    · refine Sim.skip (.thenN (.seq (.block (.seq (.region0 (.bind (og := ix a1 i10) ⟨some 16, POp.iaddrS 25 (Operand.tmp 12) (Operand.tmp 14), none, []⟩ (fun x12 => [(16, .one (.eptr (Event.cod.enc x12) 0))]) (fun x12 => []) (by kernel_rfl) (fun x12 hr => pOp_eff (by kernel_rfl) (by kernel_rfl) (eff_idx (c := Event.cod) (l := a1) (k := .i64) (n := i10) (by kernel_rfl) (by kernel_rfl) (by kernel_rfl) hr)) (fun x12 => ?_)))))))
      refine SimI.rd 3 [(9, qp 9 0), (17, .agg (Event.cells x12))] [(9, some (.cells (Event.cells x12))), (9, some (.cells [lj 0, lj 0, lj 0, lj 0, lj 0, lj 0, ls be, lj 0, ls be, lj 0, ls be, lj 0, ls be, lj 0, li .u8 0, lj 0, lj 0, lj 0, ls be, lj 0, ls be, lj 0, ls be, lj 0, ls be]))] (.thenN (.st 2 [(20, .agg (Event.cells x12)), (19, .one (vw Thing.cod l8))] [] (.cl 21 true [[(0, 11)], []] 51 [Operand.tmp 19, Operand.tmp 20] none (fun r13 => .tup [.one (vw Thing.cod r13.1), qb r13.2]) [.one (vw Thing.cod l8), .agg (Event.cells x12)] (F51_ok n l8 x12) (fun r13 => ?_))))
      refine SimI.rd 5 [(7, qb r13.2), (6, .one (vw Thing.cod r13.1)), (23, qb r13.2), (22, .one (vw Thing.cod r13.1)), (18, .tup [.one (vw Thing.cod r13.1), qb r13.2])] [] (.thenN (.sr 2 [(25, qb (!(r13.2))), (24, qb r13.2)] [] (.cond (!(r13.2)) (by kernel_rfl) ?_ ?_)))
      · refine Sim.exit (.blockY rfl (.thenX (.loopX (.blockX (.thenN (.pr [0, 6, 7] [9] [] [(0, .one (vw Thing.cod a0)), (6, .one (vw Thing.cod r13.1)), (7, qb r13.2)] [] ?_))))))
        exact F40_j16_ok n a0 r13.1 r13.2
      · refine Sim.skip (.blockN (.thenN (.region0 (.rd 2 [(14, qj (IntKind.wrap .i64 (i10 + 1))), (26, qj (IntKind.wrap .i64 (i10 + 1)))] [] (.loopN (.pr [0, 6, 7, 12, 13, 14] [9] [] [(0, .one (vw Thing.cod a0)), (6, .one (vw Thing.cod r13.1)), (7, qb r13.2), (12, .one (vw Event.cod a1)), (13, qj ((a1).length : Int)), (14, qj (IntKind.wrap .i64 (i10 + 1)))] [] ?_))))))
        exact ih_l11 r13.1 r13.2 (IntKind.wrap .i64 (i10 + 1))
    · refine Sim.exit (.thenX (.loopX (.blockX (.thenN (.pr [0, 6, 7] [9] [] [(0, .one (vw Thing.cod a0)), (6, .one (vw Thing.cod l8)), (7, qb b9)] [] ?_)))))
      exact F40_j16_ok n a0 l8 b9

def F40 (n : Nat) (a0 : (List Thing)) (a1 : (List Event)) : Option ((List Thing) × Bool) :=
  (cloneL a0).bind fun (l1 : (List Thing)) =>
  F40_l11 n a0 a1 (n + 8) l1 true 0
theorem F40_ok (n : Nat) (a0 : (List Thing)) (a1 : (List Event)) : ∀ r, F40 n a0 a1 = some r → D 40 [.one (vw Thing.cod a0), .one (vw Event.cod a1)] [] = some (F40_e r) := by
  refine fn_to (D := D) (n := n + 8) (nt := 32) (rs := pc40_r) (c := pc40_c41) (L := [(0, .one (vw Thing.cod a0)), (1, .one (vw Event.cod a1))]) (M := []) (k := 0) rfl rfl rfl rfl rfl rfl rfl ?_
  unfold F40
  refine Sim.sr 2 [(5, qb false), (4, .one (lnil))] [] (.scope (.st 1 [(10, .one (vw Thing.cod a0))] [] (.bind (og := cloneL a0) ⟨some 11, POp.gcall false true [300000, 300001, 300002, 300003, 300004, 300005, 300006, 300007] [[(0, 11)]] 78 [Operand.tmp 10], none, []⟩ (fun l1 => [(11, .one (vw Thing.cod l1))]) (fun l1 => []) (by kernel_rfl) (fun l1 hr => pOp_eff (by kernel_rfl) (by kernel_rfl) (eff_gcall (ks := []) (rks := []) (new := [300000]) (ARGS := [.one (vw Thing.cod a0)]) (args1 := [.one (vw Thing.cod a0)]) (args2 := [.one (vw Thing.cod a0)]) (os := []) (os' := [.arr 28 Thing.cod.sz 0 (l1).length (getOf Thing.cod l1)]) (os1 := [.arr 28 Thing.cod.sz 0 (l1).length (getOf Thing.cod l1)]) (res := .one (.osl 1000000 0 0 (l1).length)) (res1 := .one (vw Thing.cod l1)) (r := .one (vw Thing.cod l1)) (N := []) (by kernel_rfl) (readA_ow (readA_keep (by kernel_rfl) (readA_nil))) (by kernel_rfl) (by kernel_rfl) (by kernel_rfl) (by kernel_rfl) (D_b78 (l := a0) (r := l1) hr) (by kernel_rfl) (by kernel_rfl) (by kernel_rfl) (frz_new (c := Thing.cod) 28 l1) (by kernel_rfl) (by kernel_rfl) (by kernel_rfl))) (fun l1 => ?_))))
  refine SimI.rd 2 [(7, qb true), (6, .one (vw Thing.cod l1))] [] (.thenN (.seq (.label (.thenN (.seq (.sr 3 [(14, qj 0), (13, qj ((a1).length : Int)), (12, .one (vw Event.cod a1))] [] (.block (.loop (.pr [0, 6, 7, 12, 13, 14] [9] [] [(0, .one (vw Thing.cod a0)), (6, .one (vw Thing.cod l1)), (7, qb true), (12, .one (vw Event.cod a1)), (13, qj ((a1).length : Int)), (14, qj 0)] [] ?_)))))))))
  exact F40_l11_ok n a0 a1 (n + 8) l1 true 0


-- 65: vedette/num.Put
def F65_e : ByteArray → PV × List Ob := fun r => (.one (ls r), [])
def F65_l7 (n : Nat) : Nat → Int → (List Int) → Option ByteArray
  | 0, _, _ => none
  | m + 1, i5, l6 =>
    if decide ((128 : Int) ≤ i5) then
      if ((l6).length + 1) * 1 ≤ maxCells ∧ (l6).length + 1 ≤ maxCells then
        (F65_l7 n m) (shrI .u64 i5 7) (l6 ++ [bitsI .or .u8 (IntKind.wrap .u8 i5) 128])
      else none
    else
      if ((l6).length + 1) * 1 ≤ maxCells ∧ (l6).length + 1 ≤ maxCells then
        some (mkStr (l6 ++ [IntKind.wrap .u8 i5]))
      else none
theorem F65_l7_ok (n : Nat) : ∀ (m : Nat) (i5 : Int) (l6 : (List Int)), SimL Try.prog D (n + 8) m pc65_c12 [(0, .one (li .u64 i5)), (3, .one (.osl 100003 0 0 (l6).length))] [(100003, some (.arr 5 (codI .u8).sz 0 (l6).length (getOf (codI .u8) l6)))] (F65_l7 n m i5 l6) (QB 0 (QT Try.prog D (n + 8) pc65_c17 (QF false pc65_r 0 F65_e))) := by
  intro m_l7
  induction m_l7 with
  | zero => intro i5 l6; exact SimL.zero'  rfl
  | succ m_l7 ih_l7 =>
    intro i5 l6
    refine SimL.succ ?_
    unfold F65_l7
    refine Sim.seq (.seq (.rg [(0, .one (li .u64 i5)), (3, .one (.osl 100003 0 0 (l6).length))] [(100003, some (.arr 5 (codI .u8).sz 0 (l6).length (getOf (codI .u8) l6)))] (.rd 2 [(5, qb (decide ((128 : Int) ≤ i5))), (4, .one (li .u64 i5))] [] (.thenN (.cond (decide ((128 : Int) ≤ i5)) (by kernel_rfl) ?_ ?_)))))
    · refine Sim.skip (.thenN (.block (.st 5 [(10, .one (vw (codI .u8) [bitsI .or .u8 (IntKind.wrap .u8 i5) 128])), (9, .one (li .u8 (bitsI .or .u8 (IntKind.wrap .u8 i5) 128))), (8, .one (li .u8 (IntKind.wrap .u8 i5))), (7, .one (li .u64 i5)), (6, .one (.osl 100003 0 0 (l6).length))] [] (.guard (c := ((l6).length + 1) * 1 ≤ maxCells ∧ (l6).length + 1 ≤ maxCells) ⟨some 11, POp.app 100003 5 1 1 (Operand.tmp 6) (Operand.tmp 10), none, []⟩ [(11, .one (.osl 100003 (0 + 1) 0 ((l6 ++ [bitsI .or .u8 (IntKind.wrap .u8 i5) 128])).length))] [(100003, some (.arr 5 (codI .u8).sz (0 + 1) ((l6 ++ [bitsI .or .u8 (IntKind.wrap .u8 i5) 128])).length (getOf (codI .u8) (l6 ++ [bitsI .or .u8 (IntKind.wrap .u8 i5) 128]))))] (by kernel_rfl) (fun hc => pOp_eff (by kernel_rfl) (by kernel_rfl) (eff_appO (c := (codI .u8)) (g := 0) (l := l6) (a := bitsI .or .u8 (IntKind.wrap .u8 i5) 128) (by kernel_rfl) (by kernel_rfl) (by kernel_rfl) (by kernel_rfl) hc)) (.rd 1 [(3, .one (.osl 100003 (0 + 1) 0 ((l6 ++ [bitsI .or .u8 (IntKind.wrap .u8 i5) 128])).length))] [] (.thenN (.region0 (.rd 3 [(0, .one (li .u64 (shrI .u64 i5 7))), (13, .one (li .u64 (shrI .u64 i5 7))), (12, .one (li .u64 i5))] [] (.blockN (.loopN (.pr [0, 3] [100003] [(false, 3, 0, 100003, 5, 1)] [(0, .one (li .u64 (shrI .u64 i5 7))), (3, .one (.osl 100003 0 0 ((l6 ++ [bitsI .or .u8 (IntKind.wrap .u8 i5) 128])).length))] [(100003, some (.arr 5 (codI .u8).sz 0 ((l6 ++ [bitsI .or .u8 (IntKind.wrap .u8 i5) 128])).length (getOf (codI .u8) (l6 ++ [bitsI .or .u8 (IntKind.wrap .u8 i5) 128]))))] ?_)))))))))))
      exact ih_l7 (shrI .u64 i5 7) (l6 ++ [bitsI .or .u8 (IntKind.wrap .u8 i5) 128])
    · exact Sim.exit (.thenX (.loopX (.blockX (.thenN (.st 4 [(17, .one (vw (codI .u8) [IntKind.wrap .u8 i5])), (16, .one (li .u8 (IntKind.wrap .u8 i5))), (15, .one (li .u64 i5)), (14, .one (.osl 100003 0 0 (l6).length))] [] (.guard (c := ((l6).length + 1) * 1 ≤ maxCells ∧ (l6).length + 1 ≤ maxCells) ⟨some 18, POp.app 100003 5 1 1 (Operand.tmp 14) (Operand.tmp 17), none, []⟩ [(18, .one (.osl 100003 (0 + 1) 0 ((l6 ++ [IntKind.wrap .u8 i5])).length))] [(100003, some (.arr 5 (codI .u8).sz (0 + 1) ((l6 ++ [IntKind.wrap .u8 i5])).length (getOf (codI .u8) (l6 ++ [IntKind.wrap .u8 i5]))))] (by kernel_rfl) (fun hc => pOp_eff (by kernel_rfl) (by kernel_rfl) (eff_appO (c := (codI .u8)) (g := 0) (l := l6) (a := IntKind.wrap .u8 i5) (by kernel_rfl) (by kernel_rfl) (by kernel_rfl) (by kernel_rfl) hc)) (.step ⟨some 19, POp.b2s (Operand.tmp 18), none, []⟩ [(19, qs (mkStr (l6 ++ [IntKind.wrap .u8 i5])))] [] (by kernel_rfl) (pOp_eff (by kernel_rfl) (by kernel_rfl) (eff_b2sO (l := (l6 ++ [IntKind.wrap .u8 i5])) (k := 100003) (g := (0 + 1)) (el := 5) (by kernel_rfl) (by kernel_rfl))) (.rd 1 [(2, qs (mkStr (l6 ++ [IntKind.wrap .u8 i5])))] [] (.thenN (.ret .fn))))))))))

def F65 (n : Nat) (a0 : Int) : Option ByteArray :=
  F65_l7 n (n + 8) a0 ([] : List Int)
theorem F65_ok (n : Nat) (a0 : Int) : ∀ r, F65 n a0 = some r → D 65 [.one (li .u64 a0)] [] = some (F65_e r) := by
  refine fn_to (D := D) (n := n + 8) (nt := 20) (rs := pc65_r) (c := pc65_c20) (L := [(0, .one (li .u64 a0))]) (M := []) (k := 0) rfl rfl rfl rfl rfl rfl rfl ?_
  unfold F65
  refine Sim.sr 1 [(2, qs be)] [] (.sr 1 [(3, .one (lnil))] [] (.seq (.block (.loop (.pr [0, 3] [100003] [(false, 3, 0, 100003, 5, 1)] [(0, .one (li .u64 a0)), (3, .one (.osl 100003 0 0 (([] : List Int)).length))] [(100003, some (.arr 5 (codI .u8).sz 0 (([] : List Int)).length (getOf (codI .u8) ([] : List Int))))] ?_)))))
  exact F65_l7_ok n (n + 8) a0 ([] : List Int)


-- 81: vedette/event.Bytes$1
def F81_e : Bool → PV × List Ob := fun r => (.one (lb r), [])
def F81 (n : Nat) (a0 : Event) : Option Bool :=
  (F39 n a0).bind fun (r1 : Bool) =>
  some (!(r1))
theorem F81_ok (n : Nat) (a0 : Event) : ∀ r, F81 n a0 = some r → D 81 [.agg (Event.cells a0)] [] = some (F81_e r) := by
  refine fn_to (D := D) (n := n + 8) (nt := 6) (rs := pc81_r) (c := pc81_c5) (L := [(0, .agg (Event.cells a0))]) (M := []) (k := 0) rfl rfl rfl rfl rfl rfl rfl ?_
  unfold F81
  refine Sim.sr 2 [(2, qb false), (1, qp 1 0)] [(1, some (.cells (Event.cells a0)))] (.st 1 [(3, .agg (Event.cells a0))] [] (.cl 4 true [[]] 39 [Operand.tmp 3] none (fun r1 => qb r1) [.agg (Event.cells a0)] (F39_ok n a0) (fun r1 => ?_)))
  exact SimI.rd 2 [(2, qb (!(r1))), (5, qb (!(r1)))] [] (.thenN (.ret .fn))


-- 110: slices.IndexFunc[[]vedette/api.Event,vedette/api.Event]
def F110s0_e (a0 : (List Event)) : Int → PV × List Ob := fun r => (.one (li .i64 r), [])
def F110s0_l4 (n : Nat) (a0 : (List Event)) : Nat → Int → Option Int
  | 0, _ => none
  | m + 1, i3 =>
    if decide (i3 < ((a0).length : Int)) then
      (ix a0 i3).bind fun (x5 : Event) =>
      (F81 n x5).bind fun (r6 : Bool) =>
      if r6 then
        some i3
      else
        (F110s0_l4 n a0 m) (IntKind.wrap .i64 (i3 + 1))
    else
      some (-1)
theorem F110s0_l4_ok (n : Nat) (a0 : (List Event)) : ∀ (m : Nat) (i3 : Int), SimL Try.prog D (n + 8) m pc110_c20 [(0, .one (vw Event.cod a0)), (1, .one (.val (.func (.func 81) #[] #[]))), (7, qj ((a0).length : Int)), (8, qj i3)] [] (F110s0_l4 n a0 m i3) (QB 0 (QT Try.prog D (n + 8) pc110_c26 (QF false pc110_r 0 (F110s0_e a0)))) := by
  intro m_l4
  induction m_l4 with
  | zero => intro i3; exact SimL.zero'  rfl
  | succ m_l4 ih_l4 =>
    intro i3
    refine SimL.succ ?_
    unfold F110s0_l4
    refine Sim.seq (.rg [(0, .one (vw Event.cod a0)), (1, .one (.val (.func (.func 81) #[] #[]))), (7, qj ((a0).length : Int)), (8, qj i3)] [] (.rd 1 [(9, qb (decide (i3 < ((a0).length : Int))))] [] (.thenN (.seq (.cond (decide (i3 < ((a0).length : Int))) (by kernel_rfl) ?_ ?_)))))
    · refine Sim.skip (.thenN (.seq (.block (.sr 2 [(5, qj i3), (10, qj i3)] [] (.st 3 [(13, qj i3), (12, .one (vw Event.cod a0)), (11, .one (.val (.func (.func 81) #[] #[])))] [] (.bind (og := ix a0 i3) ⟨some 14, POp.iaddrS 25 (Operand.tmp 12) (Operand.tmp 13), none, []⟩ (fun x5 => [(14, .one (.eptr (Event.cod.enc x5) 0))]) (fun x5 => []) (by kernel_rfl) (fun x5 hr => pOp_eff (by kernel_rfl) (by kernel_rfl) (eff_idx (c := Event.cod) (l := a0) (k := .i64) (n := i3) (by kernel_rfl) (by kernel_rfl) (by kernel_rfl) hr)) (fun x5 => ?_)))))))
      refine SimI.rn 1 [(15, .agg (Event.cells x5))] [] (.bind (og := F81 n x5) ⟨some 16, POp.callv true [[]] (Operand.tmp 11) [Operand.tmp 15], none, []⟩ (fun r6 => [(16, qb r6)]) (fun r6 => []) (by kernel_rfl) (fun r6 hr => pOp_eff (by kernel_rfl) (by kernel_rfl) (eff_callvv (by kernel_rfl) (ARGS := [.agg (Event.cells x5)]) (by kernel_rfl) (args_clean (by kernel_rfl) args_nil) (F81_ok n x5 r6 hr) (by kernel_rfl))) (fun r6 => ?_))
      refine SimI.dn (.thenN (.cond r6 (by kernel_rfl) ?_ ?_))
      · exact Sim.sr 2 [(4, qj i3), (17, qj i3)] [] (.ret (.blockR (.thenR (.loopR (.blockR (.thenR .fn))))))
      · refine Sim.skip (.blockN (.thenN (.region0 (.rd 2 [(8, qj (IntKind.wrap .i64 (i3 + 1))), (18, qj (IntKind.wrap .i64 (i3 + 1)))] [] (.loopN (.pr [0, 1, 7, 8] [] [] [(0, .one (vw Event.cod a0)), (1, .one (.val (.func (.func 81) #[] #[]))), (7, qj ((a0).length : Int)), (8, qj (IntKind.wrap .i64 (i3 + 1)))] [] ?_))))))
        exact ih_l4 (IntKind.wrap .i64 (i3 + 1))
    · exact Sim.exit (.thenX (.loopX (.blockX (.thenN (.sr 1 [(4, qj (-1))] [] (.ret .fn))))))

def F110s0 (n : Nat) (a0 : (List Event)) : Option Int :=
  F110s0_l4 n a0 (n + 8) 0
theorem F110s0_ok (n : Nat) (a0 : (List Event)) : ∀ r, F110s0 n a0 = some r → D 110 [.one (vw Event.cod a0), .one (.val (.func (.func 81) #[] #[]))] [] = some ((F110s0_e a0) r) := by
  refine fn_to (D := D) (n := n + 8) (nt := 19) (rs := pc110_r) (c := pc110_c28) (L := [(0, .one (vw Event.cod a0)), (1, .one (.val (.func (.func 81) #[] #[])))]) (M := []) (k := 0) rfl rfl rfl rfl rfl rfl rfl ?_
  unfold F110s0
  refine Sim.sr 1 [(4, qj 0)] [] (.seq (.sr 3 [(8, qj 0), (7, qj ((a0).length : Int)), (6, .one (vw Event.cod a0))] [] (.block (.loop (.pr [0, 1, 7, 8] [] [] [(0, .one (vw Event.cod a0)), (1, .one (.val (.func (.func 81) #[] #[]))), (7, qj ((a0).length : Int)), (8, qj 0)] [] ?_)))))
  exact F110s0_l4_ok n a0 (n + 8) 0


-- 80: slices.ContainsFunc[[]vedette/api.Event,vedette/api.Event]
def F80s0_e (a0 : (List Event)) : Bool → PV × List Ob := fun r => (.one (lb r), [])
def F80s0 (n : Nat) (a0 : (List Event)) : Option Bool :=
  (F110s0 n a0).bind fun (r1 : Int) =>
  some (decide ((0 : Int) ≤ r1))
theorem F80s0_ok (n : Nat) (a0 : (List Event)) : ∀ r, F80s0 n a0 = some r → D 80 [.one (vw Event.cod a0), .one (.val (.func (.func 81) #[] #[]))] [] = some ((F80s0_e a0) r) := by
  refine fn_to (D := D) (n := n + 8) (nt := 9) (rs := pc80_r) (c := pc80_c5) (L := [(0, .one (vw Event.cod a0)), (1, .one (.val (.func (.func 81) #[] #[])))]) (M := []) (k := 0) rfl rfl rfl rfl rfl rfl rfl ?_
  unfold F80s0
  refine Sim.sr 1 [(4, qb false)] [] (.st 2 [(6, .one (.val (.func (.func 81) #[] #[]))), (5, .one (vw Event.cod a0))] [] (.bind (og := F110s0 n a0) ⟨some 7, POp.gcall false false [300000, 300001, 300002, 300003, 300004, 300005, 300006, 300007] [[(0, 25)], []] 110 [Operand.tmp 5, Operand.tmp 6], none, []⟩ (fun r1 => [(7, qj r1)]) (fun r1 => []) (by kernel_rfl) (fun r1 hr => pOp_eff (by kernel_rfl) (by kernel_rfl) (eff_gcall (ks := []) (rks := []) (new := []) (ARGS := [.one (vw Event.cod a0), .one (.val (.func (.func 81) #[] #[]))]) (args1 := [.one (vw Event.cod a0), .one (.val (.func (.func 81) #[] #[]))]) (args2 := [.one (vw Event.cod a0), .one (.val (.func (.func 81) #[] #[]))]) (os := []) (os' := []) (os1 := []) (res := qj r1) (res1 := qj r1) (r := qj r1) (N := []) (by kernel_rfl) (readA_ow (readA_keep (by kernel_rfl) (readA_keep (by kernel_rfl) (readA_nil)))) (by kernel_rfl) (by kernel_rfl) (by kernel_rfl) (by kernel_rfl) (F110s0_ok n a0 r1 hr) (by kernel_rfl) (by kernel_rfl) (by kernel_rfl) rfl (by kernel_rfl) (by kernel_rfl) (by kernel_rfl))) (fun r1 => ?_)))
  exact SimI.rd 2 [(4, qb (decide ((0 : Int) ≤ r1))), (8, qb (decide ((0 : Int) ≤ r1)))] [] (.thenN (.ret .fn))


-- 100: vedette/num.Text
def F100_e : ByteArray → PV × List Ob := fun r => (.one (ls r), [])
def F100 (n : Nat) (a0 : ByteArray) : Option ByteArray :=
  (F65 n (IntKind.wrap .u64 (a0.size : Int))).bind fun (r1 : ByteArray) =>
  if r1.size + a0.size ≤ 9223372036854775807 then
    some (r1 ++ a0)
  else none
theorem F100_ok (n : Nat) (a0 : ByteArray) : ∀ r, F100 n a0 = some r → D 100 [.one (ls a0)] [] = some (F100_e r) := by
  refine fn_to (D := D) (n := n + 8) (nt := 9) (rs := pc100_r) (c := pc100_c5) (L := [(0, qs a0)]) (M := []) (k := 0) rfl rfl rfl rfl rfl rfl rfl ?_
  unfold F100
  refine Sim.sr 1 [(2, qs be)] [] (.st 3 [(5, .one (li .u64 (IntKind.wrap .u64 (a0.size : Int)))), (4, qj (a0.size : Int)), (3, qs a0)] [] (.cl 6 true [[]] 65 [Operand.tmp 5] none (fun r1 => qs r1) [.one (li .u64 (IntKind.wrap .u64 (a0.size : Int)))] (F65_ok n (IntKind.wrap .u64 (a0.size : Int))) (fun r1 => ?_)))
  exact SimI.rn 1 [(7, qs a0)] [] (.guard (c := r1.size + a0.size ≤ 9223372036854775807) ⟨some 8, POp.prim (Prim.bin BinOp.add 9 false false) [Operand.tmp 6, Operand.tmp 7], none, []⟩ [(8, qs (r1 ++ a0))] [] (by kernel_rfl) (fun hc => pOp_eff (by kernel_rfl) (by kernel_rfl) (eff_prim (by kernel_rfl) (pr_addS _ _ _ r1 a0 hc))) (.rd 1 [(2, qs (r1 ++ a0))] [] (.thenN (.ret .fn))))


-- 114: vedette/num.Zig
def F114_e : Int → PV × List Ob := fun r => (.one (li .u64 r), [])
def F114 (n : Nat) (a0 : Int) : Option Int :=
  some (bitsI .xor .u64 (shlI .u64 (IntKind.wrap .u64 a0) 1) (IntKind.wrap .u64 (shrI .i64 a0 63)))
theorem F114_ok (n : Nat) (a0 : Int) : ∀ r, F114 n a0 = some r → D 114 [.one (li .i64 a0)] [] = some (F114_e r) := by
  refine fn_to (D := D) (n := n + 8) (nt := 10) (rs := pc114_r) (c := pc114_c5) (L := [(0, qj a0)]) (M := []) (k := 0) rfl rfl rfl rfl rfl rfl rfl ?_
  unfold F114
  exact Sim.sr 1 [(2, .one (li .u64 0))] [] (.sr 8 [(2, .one (li .u64 (bitsI .xor .u64 (shlI .u64 (IntKind.wrap .u64 a0) 1) (IntKind.wrap .u64 (shrI .i64 a0 63))))), (9, .one (li .u64 (bitsI .xor .u64 (shlI .u64 (IntKind.wrap .u64 a0) 1) (IntKind.wrap .u64 (shrI .i64 a0 63))))), (8, .one (li .u64 (IntKind.wrap .u64 (shrI .i64 a0 63)))), (7, qj (shrI .i64 a0 63)), (6, qj a0), (5, .one (li .u64 (shlI .u64 (IntKind.wrap .u64 a0) 1))), (4, .one (li .u64 (IntKind.wrap .u64 a0))), (3, qj a0)] [] (.ret .fn))


-- 101: vedette/num.Int
def F101_e : ByteArray → PV × List Ob := fun r => (.one (ls r), [])
def F101 (n : Nat) (a0 : Int) : Option ByteArray :=
  (F114 n a0).bind fun (r1 : Int) =>
  (F65 n r1).bind fun (r2 : ByteArray) =>
  some r2
theorem F101_ok (n : Nat) (a0 : Int) : ∀ r, F101 n a0 = some r → D 101 [.one (li .i64 a0)] [] = some (F101_e r) := by
  refine fn_to (D := D) (n := n + 8) (nt := 6) (rs := pc101_r) (c := pc101_c5) (L := [(0, qj a0)]) (M := []) (k := 0) rfl rfl rfl rfl rfl rfl rfl ?_
  unfold F101
  refine Sim.sr 1 [(2, qs be)] [] (.st 1 [(3, qj a0)] [] (.cl 4 true [[]] 114 [Operand.tmp 3] none (fun r1 => .one (li .u64 r1)) [qj a0] (F114_ok n a0) (fun r1 => ?_)))
  refine SimI.cl 5 true [[]] 65 [Operand.tmp 4] none (fun r2 => qs r2) [.one (li .u64 r1)] (F65_ok n r1) (fun r2 => ?_)
  exact SimI.rd 1 [(2, qs r2)] [] (.thenN (.ret .fn))


-- 63: vedette/fields.Bytes
def F63_e : (ByteArray × Int) → PV × List Ob := fun r => (.tup [.one (ls r.1), .one (li .i64 r.2)], [])
def F63_u27 (n : Nat) (s26 : ByteArray) : Option (ByteArray × Int) :=
    some (s26, 0)
theorem F63_u27_ok (n : Nat) (a0 : Delta) (s26 : ByteArray) : SimL Try.prog D (n + 8) (n + 4) pc63_c39 [(1, qp 1 0), (4, qs s26), (37, .agg (A4_Field.cells a0.F)), (38, qj 4)] [(1, some (.cells (Delta.cells a0)))] (F63_u27 n s26) (QB 0 (QT Try.prog D (n + 8) pc63_c45 (QF false pc63_r 0 F63_e))) := by
    unfold F63_u27
    exact SimL.succ (.seq (.rg [(1, qp 1 0), (4, qs s26), (37, .agg (A4_Field.cells a0.F)), (38, qj 4)] [(1, some (.cells (Delta.cells a0)))] (.rd 1 [(39, qb false)] [] (.thenN (.seq (.condF (by kernel_rfl) (.exit (.thenX (.loopX (.blockX (.thenN (.sr 3 [(3, qj 0), (2, qs s26), (61, qs s26)] [] (.ret .fn)))))))))))))

def F63_u22 (n : Nat) (a0 : Delta) (s21 : ByteArray) : Option (ByteArray × Int) :=
    (F99 n a0.Mask 3).bind fun (r23 : Bool) =>
    if !(r23) then
      F63_u27 n s21
    else
      (F100 n a0.F.a3.Text).bind fun (r24 : ByteArray) =>
      if s21.size + r24.size ≤ 9223372036854775807 then
        if a0.F.a3.Text.toList == ByteArray.empty.toList then
          (F101 n a0.F.a3.N).bind fun (r25 : ByteArray) =>
          if (s21 ++ r24).size + r25.size ≤ 9223372036854775807 then
            F63_u27 n ((s21 ++ r24) ++ r25)
          else none
        else
          F63_u27 n (s21 ++ r24)
      else none
theorem F63_u22_ok (n : Nat) (a0 : Delta) (s21 : ByteArray) : SimL Try.prog D (n + 8) (n + 5) pc63_c39 [(1, qp 1 0), (4, qs s21), (37, .agg (A4_Field.cells a0.F)), (38, qj 3)] [(1, some (.cells (Delta.cells a0)))] (F63_u22 n a0 s21) (QB 0 (QT Try.prog D (n + 8) pc63_c45 (QF false pc63_r 0 F63_e))) := by
    unfold F63_u22
    refine SimL.succ (.seq (.rg [(1, qp 1 0), (4, qs s21), (37, .agg (A4_Field.cells a0.F)), (38, qj 3)] [(1, some (.cells (Delta.cells a0)))] (.rd 1 [(39, qb true)] [] (.thenN (.seq (.condT (by kernel_rfl) (.skip (.thenN (.seq (.block (.sr 5 [(5, qj 3), (6, qp 6 0), (41, .agg [lj a0.F.a3.N, ls a0.F.a3.Text]), (40, qj 3)] [(6, some (.cells [lj a0.F.a3.N, ls a0.F.a3.Text])), (6, some (.cells [lj 0, ls be]))] (.seq (.st 3 [(44, qj 3), (43, .one (li .u8 a0.Mask)), (42, qp 1 1)] [] (.cl 45 true [[], []] 99 [Operand.tmp 43, Operand.tmp 44] none (fun r23 => qb r23) [.one (li .u8 a0.Mask), qj 3] (F99_ok n a0.Mask 3) (fun r23 => ?_)))))))))))))))
    refine SimI.rd 1 [(46, qb (!(r23)))] [] (.thenN (.cond (!(r23)) (by kernel_rfl) ?_ ?_))
    · refine Sim.exit (.thenX (.blockX (.thenN (.region0 (.rd 2 [(38, qj 4), (60, qj 4)] [] (.loopN (.pr [1, 4, 37, 38] [1, 6] [] [(1, qp 1 0), (4, qs s21), (37, .agg (A4_Field.cells a0.F)), (38, qj 4)] [(1, some (.cells (Delta.cells a0)))] ?_)))))))
      exact F63_u27_ok n a0 s21
    · refine Sim.skip (.thenN (.st 3 [(49, qs a0.F.a3.Text), (48, qp 6 1), (47, qs s21)] [] (.cl 50 true [[]] 100 [Operand.tmp 49] none (fun r24 => qs r24) [qs a0.F.a3.Text] (F100_ok n a0.F.a3.Text) (fun r24 => ?_))))
      refine SimI.guard (c := s21.size + r24.size ≤ 9223372036854775807) ⟨some 51, POp.prim (Prim.bin BinOp.add 9 false false) [Operand.tmp 47, Operand.tmp 50], none, []⟩ [(51, qs (s21 ++ r24))] [] (by kernel_rfl) (fun hc => pOp_eff (by kernel_rfl) (by kernel_rfl) (eff_prim (by kernel_rfl) (pr_addS _ _ _ s21 r24 hc))) (.rd 1 [(4, qs (s21 ++ r24))] [] (.thenN (.sr 3 [(54, qb (a0.F.a3.Text.toList == be.toList)), (53, qs a0.F.a3.Text), (52, qp 6 1)] [] (.cond (a0.F.a3.Text.toList == be.toList) (by kernel_rfl) ?_ ?_))))
      · refine Sim.region0 (.rn 3 [(57, qj a0.F.a3.N), (56, qp 6 0), (55, qs (s21 ++ r24))] [] (.cl 58 true [[]] 101 [Operand.tmp 57] none (fun r25 => qs r25) [qj a0.F.a3.N] (F101_ok n a0.F.a3.N) (fun r25 => ?_)))
        refine SimI.guard (c := (s21 ++ r24).size + r25.size ≤ 9223372036854775807) ⟨some 59, POp.prim (Prim.bin BinOp.add 9 false false) [Operand.tmp 55, Operand.tmp 58], none, []⟩ [(59, qs ((s21 ++ r24) ++ r25))] [] (by kernel_rfl) (fun hc => pOp_eff (by kernel_rfl) (by kernel_rfl) (eff_prim (by kernel_rfl) (pr_addS _ _ _ (s21 ++ r24) r25 hc))) (.rd 1 [(4, qs ((s21 ++ r24) ++ r25))] [] (.blockN (.thenN (.region0 (.rd 2 [(38, qj 4), (60, qj 4)] [] (.loopN (.pr [1, 4, 37, 38] [1, 6] [] [(1, qp 1 0), (4, qs ((s21 ++ r24) ++ r25)), (37, .agg (A4_Field.cells a0.F)), (38, qj 4)] [(1, some (.cells (Delta.cells a0)))] ?_)))))))
        exact F63_u27_ok n a0 ((s21 ++ r24) ++ r25)
      · refine Sim.skip (.blockN (.thenN (.region0 (.rd 2 [(38, qj 4), (60, qj 4)] [] (.loopN (.pr [1, 4, 37, 38] [1, 6] [] [(1, qp 1 0), (4, qs (s21 ++ r24)), (37, .agg (A4_Field.cells a0.F)), (38, qj 4)] [(1, some (.cells (Delta.cells a0)))] ?_))))))
        exact F63_u27_ok n a0 (s21 ++ r24)

def F63_u17 (n : Nat) (a0 : Delta) (s16 : ByteArray) : Option (ByteArray × Int) :=
    (F99 n a0.Mask 2).bind fun (r18 : Bool) =>
    if !(r18) then
      F63_u22 n a0 s16
    else
      (F100 n a0.F.a2.Text).bind fun (r19 : ByteArray) =>
      if s16.size + r19.size ≤ 9223372036854775807 then
        if a0.F.a2.Text.toList == ByteArray.empty.toList then
          (F101 n a0.F.a2.N).bind fun (r20 : ByteArray) =>
          if (s16 ++ r19).size + r20.size ≤ 9223372036854775807 then
            F63_u22 n a0 ((s16 ++ r19) ++ r20)
          else none
        else
          F63_u22 n a0 (s16 ++ r19)
      else none
theorem F63_u17_ok (n : Nat) (a0 : Delta) (s16 : ByteArray) : SimL Try.prog D (n + 8) (n + 6) pc63_c39 [(1, qp 1 0), (4, qs s16), (37, .agg (A4_Field.cells a0.F)), (38, qj 2)] [(1, some (.cells (Delta.cells a0)))] (F63_u17 n a0 s16) (QB 0 (QT Try.prog D (n + 8) pc63_c45 (QF false pc63_r 0 F63_e))) := by
    unfold F63_u17
    refine SimL.succ (.seq (.rg [(1, qp 1 0), (4, qs s16), (37, .agg (A4_Field.cells a0.F)), (38, qj 2)] [(1, some (.cells (Delta.cells a0)))] (.rd 1 [(39, qb true)] [] (.thenN (.seq (.condT (by kernel_rfl) (.skip (.thenN (.seq (.block (.sr 5 [(5, qj 2), (6, qp 6 0), (41, .agg [lj a0.F.a2.N, ls a0.F.a2.Text]), (40, qj 2)] [(6, some (.cells [lj a0.F.a2.N, ls a0.F.a2.Text])), (6, some (.cells [lj 0, ls be]))] (.seq (.st 3 [(44, qj 2), (43, .one (li .u8 a0.Mask)), (42, qp 1 1)] [] (.cl 45 true [[], []] 99 [Operand.tmp 43, Operand.tmp 44] none (fun r18 => qb r18) [.one (li .u8 a0.Mask), qj 2] (F99_ok n a0.Mask 2) (fun r18 => ?_)))))))))))))))
    refine SimI.rd 1 [(46, qb (!(r18)))] [] (.thenN (.cond (!(r18)) (by kernel_rfl) ?_ ?_))
    · refine Sim.exit (.thenX (.blockX (.thenN (.region0 (.rd 2 [(38, qj 3), (60, qj 3)] [] (.loopN (.pr [1, 4, 37, 38] [1, 6] [] [(1, qp 1 0), (4, qs s16), (37, .agg (A4_Field.cells a0.F)), (38, qj 3)] [(1, some (.cells (Delta.cells a0)))] ?_)))))))
      exact F63_u22_ok n a0 s16
    · refine Sim.skip (.thenN (.st 3 [(49, qs a0.F.a2.Text), (48, qp 6 1), (47, qs s16)] [] (.cl 50 true [[]] 100 [Operand.tmp 49] none (fun r19 => qs r19) [qs a0.F.a2.Text] (F100_ok n a0.F.a2.Text) (fun r19 => ?_))))
      refine SimI.guard (c := s16.size + r19.size ≤ 9223372036854775807) ⟨some 51, POp.prim (Prim.bin BinOp.add 9 false false) [Operand.tmp 47, Operand.tmp 50], none, []⟩ [(51, qs (s16 ++ r19))] [] (by kernel_rfl) (fun hc => pOp_eff (by kernel_rfl) (by kernel_rfl) (eff_prim (by kernel_rfl) (pr_addS _ _ _ s16 r19 hc))) (.rd 1 [(4, qs (s16 ++ r19))] [] (.thenN (.sr 3 [(54, qb (a0.F.a2.Text.toList == be.toList)), (53, qs a0.F.a2.Text), (52, qp 6 1)] [] (.cond (a0.F.a2.Text.toList == be.toList) (by kernel_rfl) ?_ ?_))))
      · refine Sim.region0 (.rn 3 [(57, qj a0.F.a2.N), (56, qp 6 0), (55, qs (s16 ++ r19))] [] (.cl 58 true [[]] 101 [Operand.tmp 57] none (fun r20 => qs r20) [qj a0.F.a2.N] (F101_ok n a0.F.a2.N) (fun r20 => ?_)))
        refine SimI.guard (c := (s16 ++ r19).size + r20.size ≤ 9223372036854775807) ⟨some 59, POp.prim (Prim.bin BinOp.add 9 false false) [Operand.tmp 55, Operand.tmp 58], none, []⟩ [(59, qs ((s16 ++ r19) ++ r20))] [] (by kernel_rfl) (fun hc => pOp_eff (by kernel_rfl) (by kernel_rfl) (eff_prim (by kernel_rfl) (pr_addS _ _ _ (s16 ++ r19) r20 hc))) (.rd 1 [(4, qs ((s16 ++ r19) ++ r20))] [] (.blockN (.thenN (.region0 (.rd 2 [(38, qj 3), (60, qj 3)] [] (.loopN (.pr [1, 4, 37, 38] [1, 6] [] [(1, qp 1 0), (4, qs ((s16 ++ r19) ++ r20)), (37, .agg (A4_Field.cells a0.F)), (38, qj 3)] [(1, some (.cells (Delta.cells a0)))] ?_)))))))
        exact F63_u22_ok n a0 ((s16 ++ r19) ++ r20)
      · refine Sim.skip (.blockN (.thenN (.region0 (.rd 2 [(38, qj 3), (60, qj 3)] [] (.loopN (.pr [1, 4, 37, 38] [1, 6] [] [(1, qp 1 0), (4, qs (s16 ++ r19)), (37, .agg (A4_Field.cells a0.F)), (38, qj 3)] [(1, some (.cells (Delta.cells a0)))] ?_))))))
        exact F63_u22_ok n a0 (s16 ++ r19)

def F63_u12 (n : Nat) (a0 : Delta) (s11 : ByteArray) : Option (ByteArray × Int) :=
    (F99 n a0.Mask 1).bind fun (r13 : Bool) =>
    if !(r13) then
      F63_u17 n a0 s11
    else
      (F100 n a0.F.a1.Text).bind fun (r14 : ByteArray) =>
      if s11.size + r14.size ≤ 9223372036854775807 then
        if a0.F.a1.Text.toList == ByteArray.empty.toList then
          (F101 n a0.F.a1.N).bind fun (r15 : ByteArray) =>
          if (s11 ++ r14).size + r15.size ≤ 9223372036854775807 then
            F63_u17 n a0 ((s11 ++ r14) ++ r15)
          else none
        else
          F63_u17 n a0 (s11 ++ r14)
      else none
theorem F63_u12_ok (n : Nat) (a0 : Delta) (s11 : ByteArray) : SimL Try.prog D (n + 8) (n + 7) pc63_c39 [(1, qp 1 0), (4, qs s11), (37, .agg (A4_Field.cells a0.F)), (38, qj 1)] [(1, some (.cells (Delta.cells a0)))] (F63_u12 n a0 s11) (QB 0 (QT Try.prog D (n + 8) pc63_c45 (QF false pc63_r 0 F63_e))) := by
    unfold F63_u12
    refine SimL.succ (.seq (.rg [(1, qp 1 0), (4, qs s11), (37, .agg (A4_Field.cells a0.F)), (38, qj 1)] [(1, some (.cells (Delta.cells a0)))] (.rd 1 [(39, qb true)] [] (.thenN (.seq (.condT (by kernel_rfl) (.skip (.thenN (.seq (.block (.sr 5 [(5, qj 1), (6, qp 6 0), (41, .agg [lj a0.F.a1.N, ls a0.F.a1.Text]), (40, qj 1)] [(6, some (.cells [lj a0.F.a1.N, ls a0.F.a1.Text])), (6, some (.cells [lj 0, ls be]))] (.seq (.st 3 [(44, qj 1), (43, .one (li .u8 a0.Mask)), (42, qp 1 1)] [] (.cl 45 true [[], []] 99 [Operand.tmp 43, Operand.tmp 44] none (fun r13 => qb r13) [.one (li .u8 a0.Mask), qj 1] (F99_ok n a0.Mask 1) (fun r13 => ?_)))))))))))))))
    refine SimI.rd 1 [(46, qb (!(r13)))] [] (.thenN (.cond (!(r13)) (by kernel_rfl) ?_ ?_))
    · refine Sim.exit (.thenX (.blockX (.thenN (.region0 (.rd 2 [(38, qj 2), (60, qj 2)] [] (.loopN (.pr [1, 4, 37, 38] [1, 6] [] [(1, qp 1 0), (4, qs s11), (37, .agg (A4_Field.cells a0.F)), (38, qj 2)] [(1, some (.cells (Delta.cells a0)))] ?_)))))))
      exact F63_u17_ok n a0 s11
    · refine Sim.skip (.thenN (.st 3 [(49, qs a0.F.a1.Text), (48, qp 6 1), (47, qs s11)] [] (.cl 50 true [[]] 100 [Operand.tmp 49] none (fun r14 => qs r14) [qs a0.F.a1.Text] (F100_ok n a0.F.a1.Text) (fun r14 => ?_))))
      refine SimI.guard (c := s11.size + r14.size ≤ 9223372036854775807) ⟨some 51, POp.prim (Prim.bin BinOp.add 9 false false) [Operand.tmp 47, Operand.tmp 50], none, []⟩ [(51, qs (s11 ++ r14))] [] (by kernel_rfl) (fun hc => pOp_eff (by kernel_rfl) (by kernel_rfl) (eff_prim (by kernel_rfl) (pr_addS _ _ _ s11 r14 hc))) (.rd 1 [(4, qs (s11 ++ r14))] [] (.thenN (.sr 3 [(54, qb (a0.F.a1.Text.toList == be.toList)), (53, qs a0.F.a1.Text), (52, qp 6 1)] [] (.cond (a0.F.a1.Text.toList == be.toList) (by kernel_rfl) ?_ ?_))))
      · refine Sim.region0 (.rn 3 [(57, qj a0.F.a1.N), (56, qp 6 0), (55, qs (s11 ++ r14))] [] (.cl 58 true [[]] 101 [Operand.tmp 57] none (fun r15 => qs r15) [qj a0.F.a1.N] (F101_ok n a0.F.a1.N) (fun r15 => ?_)))
        refine SimI.guard (c := (s11 ++ r14).size + r15.size ≤ 9223372036854775807) ⟨some 59, POp.prim (Prim.bin BinOp.add 9 false false) [Operand.tmp 55, Operand.tmp 58], none, []⟩ [(59, qs ((s11 ++ r14) ++ r15))] [] (by kernel_rfl) (fun hc => pOp_eff (by kernel_rfl) (by kernel_rfl) (eff_prim (by kernel_rfl) (pr_addS _ _ _ (s11 ++ r14) r15 hc))) (.rd 1 [(4, qs ((s11 ++ r14) ++ r15))] [] (.blockN (.thenN (.region0 (.rd 2 [(38, qj 2), (60, qj 2)] [] (.loopN (.pr [1, 4, 37, 38] [1, 6] [] [(1, qp 1 0), (4, qs ((s11 ++ r14) ++ r15)), (37, .agg (A4_Field.cells a0.F)), (38, qj 2)] [(1, some (.cells (Delta.cells a0)))] ?_)))))))
        exact F63_u17_ok n a0 ((s11 ++ r14) ++ r15)
      · refine Sim.skip (.blockN (.thenN (.region0 (.rd 2 [(38, qj 2), (60, qj 2)] [] (.loopN (.pr [1, 4, 37, 38] [1, 6] [] [(1, qp 1 0), (4, qs (s11 ++ r14)), (37, .agg (A4_Field.cells a0.F)), (38, qj 2)] [(1, some (.cells (Delta.cells a0)))] ?_))))))
        exact F63_u17_ok n a0 (s11 ++ r14)

def F63_j7 (n : Nat) (a0 : Delta) (s6 : ByteArray) : Option (ByteArray × Int) :=
    (F99 n a0.Mask 0).bind fun (r8 : Bool) =>
    if !(r8) then
      F63_u12 n a0 s6
    else
      (F100 n a0.F.a0.Text).bind fun (r9 : ByteArray) =>
      if s6.size + r9.size ≤ 9223372036854775807 then
        if a0.F.a0.Text.toList == ByteArray.empty.toList then
          (F101 n a0.F.a0.N).bind fun (r10 : ByteArray) =>
          if (s6 ++ r9).size + r10.size ≤ 9223372036854775807 then
            F63_u12 n a0 ((s6 ++ r9) ++ r10)
          else none
        else
          F63_u12 n a0 (s6 ++ r9)
      else none
theorem F63_j7_ok (n : Nat) (a0 : Delta) (s6 : ByteArray) : Sim Try.prog D (n + 8) pc63_c46 [(1, qp 1 0), (4, qs s6)] [(1, some (.cells (Delta.cells a0)))] (F63_j7 n a0 s6) (QF false pc63_r 0 F63_e) := by
    unfold F63_j7
    refine Sim.seq (.seq (.rg [(1, qp 1 0), (4, qs s6)] [(1, some (.cells (Delta.cells a0)))] (.rd 3 [(38, qj 0), (37, .agg (A4_Field.cells a0.F)), (36, qp 1 4)] [] (.thenN (.block (.loop (.succ (.seq (.rg [(1, qp 1 0), (4, qs s6), (37, .agg (A4_Field.cells a0.F)), (38, qj 0)] [(1, some (.cells (Delta.cells a0)))] (.rd 1 [(39, qb true)] [] (.thenN (.seq (.condT (by kernel_rfl) (.skip (.thenN (.seq (.block (.sr 5 [(5, qj 0), (6, qp 6 0), (41, .agg [lj a0.F.a0.N, ls a0.F.a0.Text]), (40, qj 0)] [(6, some (.cells [lj a0.F.a0.N, ls a0.F.a0.Text])), (6, some (.cells [lj 0, ls be]))] (.seq (.st 3 [(44, qj 0), (43, .one (li .u8 a0.Mask)), (42, qp 1 1)] [] (.cl 45 true [[], []] 99 [Operand.tmp 43, Operand.tmp 44] none (fun r8 => qb r8) [.one (li .u8 a0.Mask), qj 0] (F99_ok n a0.Mask 0) (fun r8 => ?_))))))))))))))))))))))
    refine SimI.rd 1 [(46, qb (!(r8)))] [] (.thenN (.cond (!(r8)) (by kernel_rfl) ?_ ?_))
    · refine Sim.exit (.thenX (.blockX (.thenN (.region0 (.rd 2 [(38, qj 1), (60, qj 1)] [] (.loopN (.pr [1, 4, 37, 38] [1, 6] [] [(1, qp 1 0), (4, qs s6), (37, .agg (A4_Field.cells a0.F)), (38, qj 1)] [(1, some (.cells (Delta.cells a0)))] ?_)))))))
      exact F63_u12_ok n a0 s6
    · refine Sim.skip (.thenN (.st 3 [(49, qs a0.F.a0.Text), (48, qp 6 1), (47, qs s6)] [] (.cl 50 true [[]] 100 [Operand.tmp 49] none (fun r9 => qs r9) [qs a0.F.a0.Text] (F100_ok n a0.F.a0.Text) (fun r9 => ?_))))
      refine SimI.guard (c := s6.size + r9.size ≤ 9223372036854775807) ⟨some 51, POp.prim (Prim.bin BinOp.add 9 false false) [Operand.tmp 47, Operand.tmp 50], none, []⟩ [(51, qs (s6 ++ r9))] [] (by kernel_rfl) (fun hc => pOp_eff (by kernel_rfl) (by kernel_rfl) (eff_prim (by kernel_rfl) (pr_addS _ _ _ s6 r9 hc))) (.rd 1 [(4, qs (s6 ++ r9))] [] (.thenN (.sr 3 [(54, qb (a0.F.a0.Text.toList == be.toList)), (53, qs a0.F.a0.Text), (52, qp 6 1)] [] (.cond (a0.F.a0.Text.toList == be.toList) (by kernel_rfl) ?_ ?_))))
      · refine Sim.region0 (.rn 3 [(57, qj a0.F.a0.N), (56, qp 6 0), (55, qs (s6 ++ r9))] [] (.cl 58 true [[]] 101 [Operand.tmp 57] none (fun r10 => qs r10) [qj a0.F.a0.N] (F101_ok n a0.F.a0.N) (fun r10 => ?_)))
        refine SimI.guard (c := (s6 ++ r9).size + r10.size ≤ 9223372036854775807) ⟨some 59, POp.prim (Prim.bin BinOp.add 9 false false) [Operand.tmp 55, Operand.tmp 58], none, []⟩ [(59, qs ((s6 ++ r9) ++ r10))] [] (by kernel_rfl) (fun hc => pOp_eff (by kernel_rfl) (by kernel_rfl) (eff_prim (by kernel_rfl) (pr_addS _ _ _ (s6 ++ r9) r10 hc))) (.rd 1 [(4, qs ((s6 ++ r9) ++ r10))] [] (.blockN (.thenN (.region0 (.rd 2 [(38, qj 1), (60, qj 1)] [] (.loopN (.pr [1, 4, 37, 38] [1, 6] [] [(1, qp 1 0), (4, qs ((s6 ++ r9) ++ r10)), (37, .agg (A4_Field.cells a0.F)), (38, qj 1)] [(1, some (.cells (Delta.cells a0)))] ?_)))))))
        exact F63_u12_ok n a0 ((s6 ++ r9) ++ r10)
      · refine Sim.skip (.blockN (.thenN (.region0 (.rd 2 [(38, qj 1), (60, qj 1)] [] (.loopN (.pr [1, 4, 37, 38] [1, 6] [] [(1, qp 1 0), (4, qs (s6 ++ r9)), (37, .agg (A4_Field.cells a0.F)), (38, qj 1)] [(1, some (.cells (Delta.cells a0)))] ?_))))))
        exact F63_u12_ok n a0 (s6 ++ r9)

def F63 (n : Nat) (a0 : Delta) : Option (ByteArray × Int) :=
  (F77 n a0).bind fun (r1 : Bool) =>
  if !(r1) then
    some (ByteArray.empty, 11)
  else
    (F65 n (IntKind.wrap .u64 a0.ID)).bind fun (r2 : ByteArray) =>
    (F65 n (IntKind.wrap .u64 a0.Mask)).bind fun (r3 : ByteArray) =>
    if r2.size + r3.size ≤ 9223372036854775807 then
      if (bitsI .and .u8 a0.Mask 1) != 0 then
        (F65 n (IntKind.wrap .u64 a0.At.X)).bind fun (r4 : ByteArray) =>
        (F65 n (IntKind.wrap .u64 a0.At.Y)).bind fun (r5 : ByteArray) =>
        if r4.size + r5.size ≤ 9223372036854775807 then
          if (r2 ++ r3).size + (r4 ++ r5).size ≤ 9223372036854775807 then
            F63_j7 n a0 ((r2 ++ r3) ++ (r4 ++ r5))
          else none
        else none
      else
        F63_j7 n a0 (r2 ++ r3)
    else none
theorem F63_ok (n : Nat) (a0 : Delta) : ∀ r, F63 n a0 = some r → D 63 [.agg (Delta.cells a0)] [] = some (F63_e r) := by
  refine fn_to (D := D) (n := n + 8) (nt := 62) (rs := pc63_r) (c := pc63_c50) (L := [(0, .agg (Delta.cells a0))]) (M := []) (k := 0) rfl rfl rfl rfl rfl rfl rfl ?_
  unfold F63
  refine Sim.sr 3 [(3, qj 0), (2, qs be), (1, qp 1 0)] [(1, some (.cells (Delta.cells a0)))] (.seq (.st 1 [(7, .agg (Delta.cells a0))] [] (.cl 8 true [[]] 77 [Operand.tmp 7] none (fun r1 => qb r1) [.agg (Delta.cells a0)] (F77_ok n a0) (fun r1 => ?_))))
  refine SimI.rd 1 [(9, qb (!(r1)))] [] (.thenN (.cond (!(r1)) (by kernel_rfl) ?_ ?_))
  · exact Sim.sr 2 [(3, qj 11), (2, qs be)] [] (.ret (.thenR .fn))
  · refine Sim.skip (.thenN (.st 3 [(12, .one (li .u64 (IntKind.wrap .u64 a0.ID))), (11, qj a0.ID), (10, qp 1 0)] [] (.bind (og := F65 n (IntKind.wrap .u64 a0.ID)) ⟨some 13, POp.call false [[]] 65 [Operand.tmp 12], none, [(12, Hint.imm)]⟩ (fun r2 => [(13, qs r2)]) (fun r2 => []) (by kernel_rfl) (fun r2 hr => pOp_eff (by kernel_rfl) (by kernel_rfl) (eff_call (ARGS := [.one (li .u64 (IntKind.wrap .u64 a0.ID))]) (by kernel_rfl) (args_clean (by kernel_rfl) args_nil) (F65_ok n (IntKind.wrap .u64 a0.ID) r2 hr) (by kernel_rfl))) (fun r2 => ?_))))
    refine SimI.rn 3 [(16, .one (li .u64 (IntKind.wrap .u64 a0.Mask))), (15, .one (li .u8 a0.Mask)), (14, qp 1 1)] [] (.bind (og := F65 n (IntKind.wrap .u64 a0.Mask)) ⟨some 17, POp.call false [[]] 65 [Operand.tmp 16], none, [(16, Hint.imm)]⟩ (fun r3 => [(17, qs r3)]) (fun r3 => []) (by kernel_rfl) (fun r3 hr => pOp_eff (by kernel_rfl) (by kernel_rfl) (eff_call (ARGS := [.one (li .u64 (IntKind.wrap .u64 a0.Mask))]) (by kernel_rfl) (args_clean (by kernel_rfl) args_nil) (F65_ok n (IntKind.wrap .u64 a0.Mask) r3 hr) (by kernel_rfl))) (fun r3 => ?_))
    refine SimI.guard (c := r2.size + r3.size ≤ 9223372036854775807) ⟨some 18, POp.prim (Prim.bin BinOp.add 9 false false) [Operand.tmp 13, Operand.tmp 17], none, [(13, Hint.imm), (17, Hint.imm)]⟩ [(18, qs (r2 ++ r3))] [] (by kernel_rfl) (fun hc => pOp_eff (by kernel_rfl) (by kernel_rfl) (eff_prim (by kernel_rfl) (pr_addS _ _ _ r2 r3 hc))) (.rd 1 [(4, qs (r2 ++ r3))] [] (.thenN (.seq (.sr 4 [(22, qb ((bitsI .and .u8 a0.Mask 1) != 0)), (21, .one (li .u8 (bitsI .and .u8 a0.Mask 1))), (20, .one (li .u8 a0.Mask)), (19, qp 1 1)] [] (.cond ((bitsI .and .u8 a0.Mask 1) != 0) (by kernel_rfl) ?_ ?_)))))
    · refine Sim.region0 (.rn 5 [(27, .one (li .u64 (IntKind.wrap .u64 a0.At.X))), (26, qj a0.At.X), (25, qp 1 2), (24, qp 1 2), (23, qs (r2 ++ r3))] [] (.bind (og := F65 n (IntKind.wrap .u64 a0.At.X)) ⟨some 28, POp.call false [[]] 65 [Operand.tmp 27], none, [(27, Hint.imm)]⟩ (fun r4 => [(28, qs r4)]) (fun r4 => []) (by kernel_rfl) (fun r4 hr => pOp_eff (by kernel_rfl) (by kernel_rfl) (eff_call (ARGS := [.one (li .u64 (IntKind.wrap .u64 a0.At.X))]) (by kernel_rfl) (args_clean (by kernel_rfl) args_nil) (F65_ok n (IntKind.wrap .u64 a0.At.X) r4 hr) (by kernel_rfl))) (fun r4 => ?_)))
      refine SimI.rn 4 [(32, .one (li .u64 (IntKind.wrap .u64 a0.At.Y))), (31, qj a0.At.Y), (30, qp 1 3), (29, qp 1 2)] [] (.bind (og := F65 n (IntKind.wrap .u64 a0.At.Y)) ⟨some 33, POp.call false [[]] 65 [Operand.tmp 32], none, [(32, Hint.imm)]⟩ (fun r5 => [(33, qs r5)]) (fun r5 => []) (by kernel_rfl) (fun r5 hr => pOp_eff (by kernel_rfl) (by kernel_rfl) (eff_call (ARGS := [.one (li .u64 (IntKind.wrap .u64 a0.At.Y))]) (by kernel_rfl) (args_clean (by kernel_rfl) args_nil) (F65_ok n (IntKind.wrap .u64 a0.At.Y) r5 hr) (by kernel_rfl))) (fun r5 => ?_))
      refine SimI.guard (c := r4.size + r5.size ≤ 9223372036854775807) ⟨some 34, POp.prim (Prim.bin BinOp.add 9 false false) [Operand.tmp 28, Operand.tmp 33], none, [(28, Hint.imm), (33, Hint.imm)]⟩ [(34, qs (r4 ++ r5))] [] (by kernel_rfl) (fun hc => pOp_eff (by kernel_rfl) (by kernel_rfl) (eff_prim (by kernel_rfl) (pr_addS _ _ _ r4 r5 hc))) (.guard (c := (r2 ++ r3).size + (r4 ++ r5).size ≤ 9223372036854775807) ⟨some 35, POp.prim (Prim.bin BinOp.add 9 false false) [Operand.tmp 23, Operand.tmp 34], none, [(23, Hint.imm), (34, Hint.imm)]⟩ [(35, qs ((r2 ++ r3) ++ (r4 ++ r5)))] [] (by kernel_rfl) (fun hc => pOp_eff (by kernel_rfl) (by kernel_rfl) (eff_prim (by kernel_rfl) (pr_addS _ _ _ (r2 ++ r3) (r4 ++ r5) hc))) (.rd 1 [(4, qs ((r2 ++ r3) ++ (r4 ++ r5)))] [] (.thenN (.pr [1, 4] [1] [] [(1, qp 1 0), (4, qs ((r2 ++ r3) ++ (r4 ++ r5)))] [(1, some (.cells (Delta.cells a0)))] ?_))))
      exact F63_j7_ok n a0 ((r2 ++ r3) ++ (r4 ++ r5))
    · refine Sim.skip (.thenN (.pr [1, 4] [1] [] [(1, qp 1 0), (4, qs (r2 ++ r3))] [(1, some (.cells (Delta.cells a0)))] ?_))
      exact F63_j7_ok n a0 (r2 ++ r3)


-- 21: vedette/thing.Bytes
def F21_e : (ByteArray × Int) → PV × List Ob := fun r => (.tup [.one (ls r.1), .one (li .i64 r.2)], [])
def F21 (n : Nat) (a0 : Thing) : Option (ByteArray × Int) :=
  (F24 n a0).bind fun (r1 : Bool) =>
  if !(r1) then
    some (ByteArray.empty, 11)
  else
    (F63 n (Delta.mk a0.ID 31 a0.At a0.F)).bind fun (r2 : (ByteArray × Int)) =>
    some (r2.1, r2.2)
theorem F21_ok (n : Nat) (a0 : Thing) : ∀ r, F21 n a0 = some r → D 21 [.agg (Thing.cells a0)] [] = some (F21_e r) := by
  refine fn_to (D := D) (n := n + 8) (nt := 17) (rs := pc21_r) (c := pc21_c13) (L := [(0, .agg (Thing.cells a0))]) (M := []) (k := 0) rfl rfl rfl rfl rfl rfl rfl ?_
  unfold F21
  refine Sim.sr 3 [(3, qj 0), (2, qs be), (1, qp 1 0)] [(1, some (.cells (Thing.cells a0)))] (.seq (.st 1 [(4, .agg (Thing.cells a0))] [] (.cl 5 true [[]] 24 [Operand.tmp 4] none (fun r1 => qb r1) [.agg (Thing.cells a0)] (F24_ok n a0) (fun r1 => ?_))))
  refine SimI.rd 1 [(6, qb (!(r1)))] [] (.thenN (.cond (!(r1)) (by kernel_rfl) ?_ ?_))
  · exact Sim.sr 2 [(3, qj 11), (2, qs be)] [] (.ret (.thenR .fn))
  · refine Sim.skip (.thenN (.st 7 [(13, .agg [lj a0.ID, li .u8 31, lj a0.At.X, lj a0.At.Y, lj a0.F.a0.N, ls a0.F.a0.Text, lj a0.F.a1.N, ls a0.F.a1.Text, lj a0.F.a2.N, ls a0.F.a2.Text, lj a0.F.a3.N, ls a0.F.a3.Text]), (12, .agg (A4_Field.cells a0.F)), (11, qp 1 3), (10, .agg [lj a0.At.X, lj a0.At.Y]), (9, qp 1 1), (8, qj a0.ID), (7, qp 1 0)] [] (.cl 14 true [[]] 63 [Operand.tmp 13] none (fun r2 => .tup [qs r2.1, qj r2.2]) [.agg [lj a0.ID, li .u8 31, lj a0.At.X, lj a0.At.Y, lj a0.F.a0.N, ls a0.F.a0.Text, lj a0.F.a1.N, ls a0.F.a1.Text, lj a0.F.a2.N, ls a0.F.a2.Text, lj a0.F.a3.N, ls a0.F.a3.Text]] (F63_ok n (Delta.mk a0.ID 31 a0.At a0.F)) (fun r2 => ?_))))
    exact SimI.rd 4 [(3, qj r2.2), (2, qs r2.1), (16, qj r2.2), (15, qs r2.1)] [] (.thenN (.ret .fn))


-- 82: vedette/event.one
def F82_e : ByteArray → PV × List Ob := fun r => (.one (ls r), [])
def F82_j5 (n : Nat) (a0 : Event) (s4 : ByteArray) : Option ByteArray :=
    (F65 n (IntKind.wrap .u64 a0.Kind)).bind fun (r6 : ByteArray) =>
    if r6.size + s4.size ≤ 9223372036854775807 then
      some (r6 ++ s4)
    else none
theorem F82_j5_ok (n : Nat) (a0 : Event) (s4 : ByteArray) : Sim Try.prog D (n + 8) pc82_c17 [(1, qp 1 0), (3, qs s4)] [(1, some (.cells (Event.cells a0)))] (F82_j5 n a0 s4) (QF false pc82_r 0 F82_e) := by
    unfold F82_j5
    refine Sim.seq (.rg [(1, qp 1 0), (3, qs s4)] [(1, some (.cells (Event.cells a0)))] (.rn 3 [(28, .one (li .u64 (IntKind.wrap .u64 a0.Kind))), (27, qj a0.Kind), (26, qp 1 0)] [] (.cl 29 true [[]] 65 [Operand.tmp 28] none (fun r6 => qs r6) [.one (li .u64 (IntKind.wrap .u64 a0.Kind))] (F65_ok n (IntKind.wrap .u64 a0.Kind)) (fun r6 => ?_))))
    exact SimI.rn 1 [(30, qs s4)] [] (.guard (c := r6.size + s4.size ≤ 9223372036854775807) ⟨some 31, POp.prim (Prim.bin BinOp.add 9 false false) [Operand.tmp 29, Operand.tmp 30], none, []⟩ [(31, qs (r6 ++ s4))] [] (by kernel_rfl) (fun hc => pOp_eff (by kernel_rfl) (by kernel_rfl) (eff_prim (by kernel_rfl) (pr_addS _ _ _ r6 s4 hc))) (.rd 1 [(2, qs (r6 ++ s4))] [] (.thenN (.ret .fn))))

def F82 (n : Nat) (a0 : Event) : Option ByteArray :=
  if a0.Kind == 1 then
    (F21 n a0.Thing).bind fun (r1 : (ByteArray × Int)) =>
    F82_j5 n a0 r1.1
  else
    if a0.Kind == 2 then
      (F63 n a0.Delta).bind fun (r2 : (ByteArray × Int)) =>
      F82_j5 n a0 r2.1
    else
      (F65 n (IntKind.wrap .u64 a0.ID)).bind fun (r3 : ByteArray) =>
      F82_j5 n a0 r3
theorem F82_ok (n : Nat) (a0 : Event) : ∀ r, F82 n a0 = some r → D 82 [.agg (Event.cells a0)] [] = some (F82_e r) := by
  refine fn_to (D := D) (n := n + 8) (nt := 32) (rs := pc82_r) (c := pc82_c20) (L := [(0, .agg (Event.cells a0))]) (M := []) (k := 0) rfl rfl rfl rfl rfl rfl rfl ?_
  unfold F82
  refine Sim.sr 2 [(2, qs be), (1, qp 1 0)] [(1, some (.cells (Event.cells a0)))] (.sr 1 [(3, qs be)] [] (.seq (.sr 2 [(5, qj a0.Kind), (4, qp 1 0)] [] (.block (.sr 2 [(10, qb (a0.Kind == 1)), (11, qb (a0.Kind == 1))] [] (.cond (a0.Kind == 1) (by kernel_rfl) ?_ ?_))))))
  · refine Sim.region0 (.rn 2 [(14, .agg (Thing.cells a0.Thing)), (13, qp 1 2)] [] (.cl 15 true [[]] 21 [Operand.tmp 14] none (fun r1 => .tup [qs r1.1, qj r1.2]) [.agg (Thing.cells a0.Thing)] (F21_ok n a0.Thing) (fun r1 => ?_)))
    refine SimI.rd 4 [(3, qs r1.1), (17, qj r1.2), (16, qs r1.1), (12, .tup [qs r1.1, qj r1.2])] [] (.blockN (.thenN (.pr [1, 3] [1] [] [(1, qp 1 0), (3, qs r1.1)] [(1, some (.cells (Event.cells a0)))] ?_)))
    exact F82_j5_ok n a0 r1.1
  · refine Sim.sr 2 [(18, qb (a0.Kind == 2)), (19, qb (a0.Kind == 2))] [] (.cond (a0.Kind == 2) (by kernel_rfl) ?_ ?_)
    · refine Sim.region0 (.rn 2 [(22, .agg (Delta.cells a0.Delta)), (21, qp 1 13)] [] (.cl 23 true [[]] 63 [Operand.tmp 22] none (fun r2 => .tup [qs r2.1, qj r2.2]) [.agg (Delta.cells a0.Delta)] (F63_ok n a0.Delta) (fun r2 => ?_)))
      refine SimI.rd 4 [(3, qs r2.1), (25, qj r2.2), (24, qs r2.1), (20, .tup [qs r2.1, qj r2.2])] [] (.blockN (.thenN (.pr [1, 3] [1] [] [(1, qp 1 0), (3, qs r2.1)] [(1, some (.cells (Event.cells a0)))] ?_)))
      exact F82_j5_ok n a0 r2.1
    · refine Sim.region0 (.rn 3 [(8, .one (li .u64 (IntKind.wrap .u64 a0.ID))), (7, qj a0.ID), (6, qp 1 1)] [] (.cl 9 true [[]] 65 [Operand.tmp 8] none (fun r3 => qs r3) [.one (li .u64 (IntKind.wrap .u64 a0.ID))] (F65_ok n (IntKind.wrap .u64 a0.ID)) (fun r3 => ?_)))
      refine SimI.rd 1 [(3, qs r3)] [] (.blockN (.thenN (.pr [1, 3] [1] [] [(1, qp 1 0), (3, qs r3)] [(1, some (.cells (Event.cells a0)))] ?_)))
      exact F82_j5_ok n a0 r3


-- 46: vedette/event.Bytes
def F46_e : (ByteArray × Int) → PV × List Ob := fun r => (.tup [.one (ls r.1), .one (li .i64 r.2)], [])
def F46_l10 (n : Nat) (a0 : (List Event)) : Nat → Int → (List Int) → Option (ByteArray × Int)
  | 0, _, _ => none
  | m + 1, ii8, l9 =>
    if decide (ii8 < ((a0).length : Int)) then
      (ix a0 ii8).bind fun (x11 : Event) =>
      (F82 n x11).bind fun (r12 : ByteArray) =>
      (bldAdd l9 r12).bind fun (l13 : (List Int)) =>
      (F46_l10 n a0 m) (IntKind.wrap .i64 (ii8 + 1)) l13
    else
      (bldStr l9).bind fun (s14 : ByteArray) =>
      some (s14, 0)
theorem F46_l10_ok (n : Nat) (a0 : (List Event)) : ∀ (m : Nat) (ii8 : Int) (l9 : (List Int)), SimL Try.prog D (n + 8) m pc46_c30 [(4, qp 4 0), (17, .one (vw Event.cod a0)), (18, qj ((a0).length : Int)), (19, qj ii8)] [(4, some (.tcells 96 [.ptr 4 0, .osl 400032 0 0 (l9).length])), (400032, some (.arr 5 (codI .u8).sz 0 (l9).length (getOf (codI .u8) l9)))] (F46_l10 n a0 m ii8 l9) (QB 0 (QT Try.prog D (n + 8) pc46_c36 (QF false pc46_r 0 F46_e))) := by
  intro m_l10
  induction m_l10 with
  | zero => intro ii8 l9; exact SimL.zero'  rfl
  | succ m_l10 ih_l10 =>
    intro ii8 l9
    refine SimL.succ ?_
    unfold F46_l10
    refine Sim.seq (.rg [(4, qp 4 0), (17, .one (vw Event.cod a0)), (18, qj ((a0).length : Int)), (19, qj ii8)] [(4, some (.tcells 96 [.ptr 4 0, .osl 400032 0 0 (l9).length])), (400032, some (.arr 5 (codI .u8).sz 0 (l9).length (getOf (codI .u8) l9)))] (.rd 1 [(20, qb (decide (ii8 < ((a0).length : Int))))] [] (.thenN (.seq (.cond (decide (ii8 < ((a0).length : Int))) (by kernel_rfl) ?_ ?_)))))
    · refine Sim.skip (.thenN (.seq (.block (.seq (.region0 (.bind (og := ix a0 ii8) ⟨some 21, POp.iaddrS 25 (Operand.tmp 17) (Operand.tmp 19), none, []⟩ (fun x11 => [(21, .one (.eptr (Event.cod.enc x11) 0))]) (fun x11 => []) (by kernel_rfl) (fun x11 hr => pOp_eff (by kernel_rfl) (by kernel_rfl) (eff_idx (c := Event.cod) (l := a0) (k := .i64) (n := ii8) (by kernel_rfl) (by kernel_rfl) (by kernel_rfl) hr)) (fun x11 => ?_)))))))
      refine SimI.rd 3 [(6, qp 6 0), (22, .agg (Event.cells x11))] [(6, some (.cells (Event.cells x11))), (6, some (.cells [lj 0, lj 0, lj 0, lj 0, lj 0, lj 0, ls be, lj 0, ls be, lj 0, ls be, lj 0, ls be, lj 0, li .u8 0, lj 0, lj 0, lj 0, ls be, lj 0, ls be, lj 0, ls be, lj 0, ls be]))] (.thenN (.region0 (.rn 1 [(23, .agg (Event.cells x11))] [] (.cl 24 true [[]] 82 [Operand.tmp 23] none (fun r12 => qs r12) [.agg (Event.cells x11)] (F82_ok n x11) (fun r12 => ?_)))))
      refine SimI.bind (og := bldAdd l9 r12) ⟨some 25, POp.gcall false false [4, 300000, 300001, 300002, 300003, 300004, 300005, 300006, 300007, 400032] [[(1, 1)], []] 64 [Operand.tmp 4, Operand.tmp 24], none, []⟩ (fun l13 => [(25, .tup [qj (r12.size : Int), .one (.val (.nilIface))])]) (fun l13 => [(4, some (.tcells 96 [.ptr 4 0, .osl 400032 (0 + 1) 0 (l13).length])), (400032, some (.arr 5 (codI .u8).sz (0 + 1) (l13).length (getOf (codI .u8) l13)))]) (by kernel_rfl) (fun l13 hr => pOp_eff (by kernel_rfl) (by kernel_rfl) (eff_gcall (ks := [4, 400032]) (rks := []) (new := []) (ARGS := [qp 4 0, qs r12]) (args1 := [qp 4 0, qs r12]) (args2 := [qp 1000000 0, qs r12]) (os := [.tcells 96 [.ptr 1000000 0, .osl 1000001 0 0 (l9).length], .arr 5 (codI .u8).sz 0 (l9).length (getOf (codI .u8) l9)]) (os' := [.tcells 96 [.ptr 1000000 0, .osl 1000001 1 0 (l13).length], .arr 5 (codI .u8).sz 1 (l13).length (getOf (codI .u8) l13)]) (os1 := [.tcells 96 [.ptr 1000000 0, .osl 1000001 1 0 (l13).length], .arr 5 (codI .u8).sz 1 (l13).length (getOf (codI .u8) l13)]) (res := .tup [qj (r12.size : Int), .one (.val (.nilIface))]) (res1 := .tup [qj (r12.size : Int), .one (.val (.nilIface))]) (r := .tup [qj (r12.size : Int), .one (.val (.nilIface))]) (N := [(4, some (.tcells 96 [.ptr 4 0, .osl 400032 (0 + 1) 0 (l13).length])), (400032, some (.arr 5 (codI .u8).sz (0 + 1) (l13).length (getOf (codI .u8) l13)))]) (by kernel_rfl) (readA_ow (readA_keep (by kernel_rfl) (readA_keep (by kernel_rfl) (readA_nil)))) (by kernel_rfl) (by kernel_rfl) (by kernel_rfl) (by kernel_rfl) (D_add (a := .ptr 1000000 0) (by kernel_rfl) (l := l9) (s := r12) l13 hr) (by kernel_rfl) (by kernel_rfl) (by kernel_rfl) rfl (by kernel_rfl) (by kernel_rfl) (by kernel_rfl))) (fun l13 => ?_)
      refine SimI.dn (.blockN (.thenN (.region0 (.rd 2 [(19, qj (IntKind.wrap .i64 (ii8 + 1))), (26, qj (IntKind.wrap .i64 (ii8 + 1)))] [] (.loopN (.pr [4, 17, 18, 19] [4, 6, 400032] [] [(4, qp 4 0), (17, .one (vw Event.cod a0)), (18, qj ((a0).length : Int)), (19, qj (IntKind.wrap .i64 (ii8 + 1)))] [(4, some (.tcells 96 [.ptr 4 0, .osl 400032 0 0 (l13).length])), (400032, some (.arr 5 (codI .u8).sz 0 (l13).length (getOf (codI .u8) l13)))] ?_))))))
      exact ih_l10 (IntKind.wrap .i64 (ii8 + 1)) l13
    · refine Sim.exit (.thenX (.loopX (.blockX (.thenN (.seq (.region0 (.bind (og := bldStr l9) ⟨some 27, POp.gcall false false [4, 300000, 300001, 300002, 300003, 300004, 300005, 300006, 300007, 400032] [[(1, 1)]] 66 [Operand.tmp 4], none, []⟩ (fun s14 => [(27, qs s14)]) (fun s14 => [(4, some (.tcells 96 [.ptr 4 0, .osl 400032 (0 + 0) 0 (l9).length])), (400032, some (.arr 5 (codI .u8).sz (0 + 1) (([] : List Int)).length (getOf (codI .u8) ([] : List Int))))]) (by kernel_rfl) (fun s14 hr => pOp_eff (by kernel_rfl) (by kernel_rfl) (eff_gcall (ks := [4, 400032]) (rks := []) (new := []) (ARGS := [qp 4 0]) (args1 := [qp 4 0]) (args2 := [qp 1000000 0]) (os := [.tcells 96 [.ptr 1000000 0, .osl 1000001 0 0 (l9).length], .arr 5 (codI .u8).sz 0 (l9).length (getOf (codI .u8) l9)]) (os' := [.tcells 96 [.ptr 1000000 0, .osl 1000001 0 0 (l9).length], .arr 5 (codI .u8).sz 1 (([] : List Int)).length (getOf (codI .u8) ([] : List Int))]) (os1 := [.tcells 96 [.ptr 1000000 0, .osl 1000001 0 0 (l9).length], .arr 5 (codI .u8).sz 1 (([] : List Int)).length (getOf (codI .u8) ([] : List Int))]) (res := qs s14) (res1 := qs s14) (r := qs s14) (N := [(4, some (.tcells 96 [.ptr 4 0, .osl 400032 (0 + 0) 0 (l9).length])), (400032, some (.arr 5 (codI .u8).sz (0 + 1) (([] : List Int)).length (getOf (codI .u8) ([] : List Int))))]) (by kernel_rfl) (readA_ow (readA_keep (by kernel_rfl) (readA_nil))) (by kernel_rfl) (by kernel_rfl) (by kernel_rfl) (by kernel_rfl) (D_str (a := .ptr 1000000 0) (by kernel_rfl) (l := l9) s14 hr) (by kernel_rfl) (by kernel_rfl) (by kernel_rfl) rfl (by kernel_rfl) (by kernel_rfl) (by kernel_rfl))) (fun s14 => ?_))))))))
      exact SimI.rd 2 [(3, qj 0), (2, qs s14)] [] (.thenN (.ret .fn))

def F46 (n : Nat) (a0 : (List Event)) : Option (ByteArray × Int) :=
  (F80s0 n a0).bind fun (r1 : Bool) =>
  if r1 then
    some (ByteArray.empty, 11)
  else
    if decide ((400 : Int) < ((a0).length : Int)) then
      some (ByteArray.empty, 13)
    else
      (F65 n (IntKind.wrap .u64 ((a0).length : Int))).bind fun (r2 : ByteArray) =>
      (bldAdd ([] : List Int) r2).bind fun (l3 : (List Int)) =>
      F46_l10 n a0 (n + 8) 0 l3
theorem F46_ok (n : Nat) (a0 : (List Event)) : ∀ r, F46 n a0 = some r → D 46 [.one (vw Event.cod a0)] [] = some (F46_e r) := by
  refine fn_to (D := D) (n := n + 8) (nt := 28) (rs := pc46_r) (c := pc46_c42) (L := [(0, .one (vw Event.cod a0))]) (M := []) (k := 0) rfl rfl rfl rfl rfl rfl rfl ?_
  unfold F46
  refine Sim.sr 2 [(3, qj 0), (2, qs be)] [] (.seq (.st 1 [(7, .one (vw Event.cod a0))] [] (.bind (og := F80s0 n a0) ⟨some 8, POp.gcall false false [300000, 300001, 300002, 300003, 300004, 300005, 300006, 300007] [[(0, 25)], []] 80 [Operand.tmp 7, Operand.func 81], none, []⟩ (fun r1 => [(8, qb r1)]) (fun r1 => []) (by kernel_rfl) (fun r1 hr => pOp_eff (by kernel_rfl) (by kernel_rfl) (eff_gcall (ks := []) (rks := []) (new := []) (ARGS := [.one (vw Event.cod a0), .one (.val (.func (.func 81) #[] #[]))]) (args1 := [.one (vw Event.cod a0), .one (.val (.func (.func 81) #[] #[]))]) (args2 := [.one (vw Event.cod a0), .one (.val (.func (.func 81) #[] #[]))]) (os := []) (os' := []) (os1 := []) (res := qb r1) (res1 := qb r1) (r := qb r1) (N := []) (by kernel_rfl) (readA_ow (readA_keep (by kernel_rfl) (readA_keep (by kernel_rfl) (readA_nil)))) (by kernel_rfl) (by kernel_rfl) (by kernel_rfl) (by kernel_rfl) (F80s0_ok n a0 r1 hr) (by kernel_rfl) (by kernel_rfl) (by kernel_rfl) rfl (by kernel_rfl) (by kernel_rfl) (by kernel_rfl))) (fun r1 => ?_))))
  refine SimI.dn (.thenN (.cond r1 (by kernel_rfl) ?_ ?_))
  · exact Sim.sr 2 [(3, qj 11), (2, qs be)] [] (.ret (.thenR .fn))
  · refine Sim.skip (.thenN (.seq (.sr 3 [(11, qb (decide ((400 : Int) < ((a0).length : Int)))), (10, qj ((a0).length : Int)), (9, .one (vw Event.cod a0))] [] (.cond (decide ((400 : Int) < ((a0).length : Int))) (by kernel_rfl) ?_ ?_))))
    · exact Sim.sr 2 [(3, qj 13), (2, qs be)] [] (.ret (.thenR .fn))
    · refine Sim.skip (.thenN (.sr 1 [(4, qp 4 0)] [(4, some (.tcells 96 [.val (.pointer none), .osl 400032 0 0 (([] : List Int)).length])), (400032, some (.arr 5 (codI .u8).sz 0 (([] : List Int)).length (getOf (codI .u8) ([] : List Int))))] (.st 3 [(14, .one (li .u64 (IntKind.wrap .u64 ((a0).length : Int)))), (13, qj ((a0).length : Int)), (12, .one (vw Event.cod a0))] [] (.cl 15 true [[]] 65 [Operand.tmp 14] none (fun r2 => qs r2) [.one (li .u64 (IntKind.wrap .u64 ((a0).length : Int)))] (F65_ok n (IntKind.wrap .u64 ((a0).length : Int))) (fun r2 => ?_)))))
      refine SimI.bind (og := bldAdd ([] : List Int) r2) ⟨some 16, POp.gcall false false [4, 300000, 300001, 300002, 300003, 300004, 300005, 300006, 300007, 400032] [[(1, 1)], []] 64 [Operand.tmp 4, Operand.tmp 15], none, []⟩ (fun l3 => [(16, .tup [qj (r2.size : Int), .one (.val (.nilIface))])]) (fun l3 => [(4, some (.tcells 96 [.ptr 4 0, .osl 400032 (0 + 1) 0 (l3).length])), (400032, some (.arr 5 (codI .u8).sz (0 + 1) (l3).length (getOf (codI .u8) l3)))]) (by kernel_rfl) (fun l3 hr => pOp_eff (by kernel_rfl) (by kernel_rfl) (eff_gcall (ks := [4, 400032]) (rks := []) (new := []) (ARGS := [qp 4 0, qs r2]) (args1 := [qp 4 0, qs r2]) (args2 := [qp 1000000 0, qs r2]) (os := [.tcells 96 [.val (.pointer none), .osl 1000001 0 0 (([] : List Int)).length], .arr 5 (codI .u8).sz 0 (([] : List Int)).length (getOf (codI .u8) ([] : List Int))]) (os' := [.tcells 96 [.ptr 1000000 0, .osl 1000001 1 0 (l3).length], .arr 5 (codI .u8).sz 1 (l3).length (getOf (codI .u8) l3)]) (os1 := [.tcells 96 [.ptr 1000000 0, .osl 1000001 1 0 (l3).length], .arr 5 (codI .u8).sz 1 (l3).length (getOf (codI .u8) l3)]) (res := .tup [qj (r2.size : Int), .one (.val (.nilIface))]) (res1 := .tup [qj (r2.size : Int), .one (.val (.nilIface))]) (r := .tup [qj (r2.size : Int), .one (.val (.nilIface))]) (N := [(4, some (.tcells 96 [.ptr 4 0, .osl 400032 (0 + 1) 0 (l3).length])), (400032, some (.arr 5 (codI .u8).sz (0 + 1) (l3).length (getOf (codI .u8) l3)))]) (by kernel_rfl) (readA_ow (readA_keep (by kernel_rfl) (readA_keep (by kernel_rfl) (readA_nil)))) (by kernel_rfl) (by kernel_rfl) (by kernel_rfl) (by kernel_rfl) (D_add (a := .val (.pointer none)) (by kernel_rfl) (l := ([] : List Int)) (s := r2) l3 hr) (by kernel_rfl) (by kernel_rfl) (by kernel_rfl) rfl (by kernel_rfl) (by kernel_rfl) (by kernel_rfl))) (fun l3 => ?_)
      refine SimI.dn (.thenN (.seq (.sr 3 [(19, qj 0), (18, qj ((a0).length : Int)), (17, .one (vw Event.cod a0))] [] (.block (.loop (.pr [4, 17, 18, 19] [4, 6, 400032] [] [(4, qp 4 0), (17, .one (vw Event.cod a0)), (18, qj ((a0).length : Int)), (19, qj 0)] [(4, some (.tcells 96 [.ptr 4 0, .osl 400032 0 0 (l3).length])), (400032, some (.arr 5 (codI .u8).sz 0 (l3).length (getOf (codI .u8) l3)))] ?_))))))
      exact F46_l10_ok n a0 (n + 8) 0 l3


-- 83: slices.Equal[[]vedette/api.Event,vedette/api.Event]
def F83_e : Bool → PV × List Ob := fun r => (.one (lb r), [])
def F83_l4 (n : Nat) (a0 : (List Event)) (a1 : (List Event)) : Nat → Int → Option Bool
  | 0, _ => none
  | m + 1, i3 =>
    if decide (i3 < ((a0).length : Int)) then
      (ix a0 i3).bind fun (x5 : Event) =>
      (ix a1 i3).bind fun (x6 : Event) =>
      if !(Event.eqb x5 x6) then
        some false
      else
        (F83_l4 n a0 a1 m) (IntKind.wrap .i64 (i3 + 1))
    else
      some true
theorem F83_l4_ok (n : Nat) (a0 : (List Event)) (a1 : (List Event)) : ∀ (m : Nat) (i3 : Int), SimL Try.prog D (n + 8) m pc83_c27 [(0, .one (vw Event.cod a0)), (1, .one (vw Event.cod a1)), (12, qj ((a0).length : Int)), (13, qj i3)] [] (F83_l4 n a0 a1 m i3) (QB 0 (QT Try.prog D (n + 8) pc83_c33 (QF false pc83_r 0 F83_e))) := by
  intro m_l4
  induction m_l4 with
  | zero => intro i3; exact SimL.zero'  rfl
  | succ m_l4 ih_l4 =>
    intro i3
    refine SimL.succ ?_
    unfold F83_l4
    refine Sim.seq (.rg [(0, .one (vw Event.cod a0)), (1, .one (vw Event.cod a1)), (12, qj ((a0).length : Int)), (13, qj i3)] [] (.rd 1 [(14, qb (decide (i3 < ((a0).length : Int))))] [] (.thenN (.seq (.cond (decide (i3 < ((a0).length : Int))) (by kernel_rfl) ?_ ?_)))))
    · refine Sim.skip (.thenN (.seq (.block (.sr 2 [(5, qj i3), (15, qj i3)] [] (.st 2 [(17, qj i3), (16, .one (vw Event.cod a0))] [] (.bind (og := ix a0 i3) ⟨some 18, POp.iaddrS 25 (Operand.tmp 16) (Operand.tmp 17), none, [(16, Hint.imm), (17, Hint.imm)]⟩ (fun x5 => [(18, .one (.eptr (Event.cod.enc x5) 0))]) (fun x5 => []) (by kernel_rfl) (fun x5 hr => pOp_eff (by kernel_rfl) (by kernel_rfl) (eff_idx (c := Event.cod) (l := a0) (k := .i64) (n := i3) (by kernel_rfl) (by kernel_rfl) (by kernel_rfl) hr)) (fun x5 => ?_)))))))
      refine SimI.rn 3 [(21, qj i3), (20, .one (vw Event.cod a1)), (19, .agg (Event.cells x5))] [] (.bind (og := ix a1 i3) ⟨some 22, POp.iaddrS 25 (Operand.tmp 20) (Operand.tmp 21), none, [(20, Hint.imm), (21, Hint.imm)]⟩ (fun x6 => [(22, .one (.eptr (Event.cod.enc x6) 0))]) (fun x6 => []) (by kernel_rfl) (fun x6 hr => pOp_eff (by kernel_rfl) (by kernel_rfl) (eff_idx (c := Event.cod) (l := a1) (k := .i64) (n := i3) (by kernel_rfl) (by kernel_rfl) (by kernel_rfl) hr)) (fun x6 => ?_))
      refine SimI.rn 1 [(23, .agg (Event.cells x6))] [] (.step ⟨some 24, POp.prim (Prim.bin BinOp.neq 67 false false) [Operand.tmp 19, Operand.tmp 23], none, [(19, Hint.imm), (23, Hint.imm)]⟩ [(24, qb (!(Event.eqb x5 x6)))] [] (by kernel_rfl) (pOp_eff (by kernel_rfl) (by kernel_rfl) (eff_prim (by kernel_rfl) (Event_eqn x5 x6 _ _))) (.dn (.thenN (.cond (!(Event.eqb x5 x6)) (by kernel_rfl) ?_ ?_))))
      · exact Sim.sr 1 [(4, qb false)] [] (.ret (.blockR (.thenR (.loopR (.blockR (.thenR .fn))))))
      · refine Sim.skip (.blockN (.thenN (.region0 (.rd 2 [(13, qj (IntKind.wrap .i64 (i3 + 1))), (25, qj (IntKind.wrap .i64 (i3 + 1)))] [] (.loopN (.pr [0, 1, 12, 13] [] [] [(0, .one (vw Event.cod a0)), (1, .one (vw Event.cod a1)), (12, qj ((a0).length : Int)), (13, qj (IntKind.wrap .i64 (i3 + 1)))] [] ?_))))))
        exact ih_l4 (IntKind.wrap .i64 (i3 + 1))
    · exact Sim.exit (.thenX (.loopX (.blockX (.thenN (.sr 1 [(4, qb true)] [] (.ret .fn))))))

def F83 (n : Nat) (a0 : (List Event)) (a1 : (List Event)) : Option Bool :=
  if ((a0).length : Int) != ((a1).length : Int) then
    some false
  else
    F83_l4 n a0 a1 (n + 8) 0
theorem F83_ok (n : Nat) (a0 : (List Event)) (a1 : (List Event)) : ∀ r, F83 n a0 a1 = some r → D 83 [.one (vw Event.cod a0), .one (vw Event.cod a1)] [] = some (F83_e r) := by
  refine fn_to (D := D) (n := n + 8) (nt := 26) (rs := pc83_r) (c := pc83_c36) (L := [(0, .one (vw Event.cod a0)), (1, .one (vw Event.cod a1))]) (M := []) (k := 0) rfl rfl rfl rfl rfl rfl rfl ?_
  unfold F83
  refine Sim.sr 1 [(4, qb false)] [] (.seq (.sr 5 [(10, qb (((a0).length : Int) != ((a1).length : Int))), (9, qj ((a1).length : Int)), (8, .one (vw Event.cod a1)), (7, qj ((a0).length : Int)), (6, .one (vw Event.cod a0))] [] (.cond (((a0).length : Int) != ((a1).length : Int)) (by kernel_rfl) ?_ ?_)))
  · exact Sim.sr 1 [(4, qb false)] [] (.ret (.thenR .fn))
  · refine Sim.skip (.thenN (.seq (.sr 3 [(13, qj 0), (12, qj ((a0).length : Int)), (11, .one (vw Event.cod a0))] [] (.block (.loop (.pr [0, 1, 12, 13] [] [] [(0, .one (vw Event.cod a0)), (1, .one (vw Event.cod a1)), (12, qj ((a0).length : Int)), (13, qj 0)] [] ?_))))))
    exact F83_l4_ok n a0 a1 (n + 8) 0


-- 49: vedette/event.Same
def F49_e : Bool → PV × List Ob := fun r => (.one (lb r), [])
def F49 (n : Nat) (a0 : (List Event)) (a1 : (List Event)) : Option Bool :=
  (F83 n a0 a1).bind fun (r1 : Bool) =>
  some r1
theorem F49_ok (n : Nat) (a0 : (List Event)) (a1 : (List Event)) : ∀ r, F49 n a0 a1 = some r → D 49 [.one (vw Event.cod a0), .one (vw Event.cod a1)] [] = some (F49_e r) := by
  refine fn_to (D := D) (n := n + 8) (nt := 8) (rs := pc49_r) (c := pc49_c5) (L := [(0, .one (vw Event.cod a0)), (1, .one (vw Event.cod a1))]) (M := []) (k := 0) rfl rfl rfl rfl rfl rfl rfl ?_
  unfold F49
  refine Sim.sr 1 [(4, qb false)] [] (.st 2 [(6, .one (vw Event.cod a1)), (5, .one (vw Event.cod a0))] [] (.cl 7 true [[(0, 25)], [(0, 25)]] 83 [Operand.tmp 5, Operand.tmp 6] none (fun r1 => qb r1) [.one (vw Event.cod a0), .one (vw Event.cod a1)] (F83_ok n a0 a1) (fun r1 => ?_)))
  exact SimI.rd 1 [(4, qb r1)] [] (.thenN (.ret .fn))


-- 42: vedette/vedettelaw15.known
theorem F42_ok (n : Nat) : ∀ r, (some true : Option Bool) = some r → D 42 [] [] = some (.one (lb r), []) := by
  rintro _ ⟨⟩
  exact all_of (N := 60) (by kernel_rfl)


-- 97: vedette/vedettelaw15.fewField
def F97_e : Bool → PV × List Ob := fun r => (.one (lb r), [])
def F97 (n : Nat) (a0 : Field) : Option Bool :=
  some (decide ((a0.Text.size : Int) ≤ 40))
theorem F97_ok (n : Nat) (a0 : Field) : ∀ r, F97 n a0 = some r → D 97 [.agg [li .i64 a0.N, ls a0.Text]] [] = some (F97_e r) := by
  refine fn_to (D := D) (n := n + 8) (nt := 7) (rs := pc97_r) (c := pc97_c5) (L := [(0, .agg [lj a0.N, ls a0.Text])]) (M := []) (k := 0) rfl rfl rfl rfl rfl rfl rfl ?_
  unfold F97
  exact Sim.sr 2 [(2, qb false), (1, qp 1 0)] [(1, some (.cells [lj a0.N, ls a0.Text]))] (.sr 5 [(2, qb (decide ((a0.Text.size : Int) ≤ 40))), (6, qb (decide ((a0.Text.size : Int) ≤ 40))), (5, qj (a0.Text.size : Int)), (4, qs a0.Text), (3, qp 1 1)] [] (.ret .fn))


-- 56: vedette/vedettelaw15.fewThing
def F56_e : Bool → PV × List Ob := fun r => (.one (lb r), [])
def F56 (n : Nat) (a0 : Thing) : Option Bool :=
  (F97 n a0.F.a0).bind fun (r1 : Bool) =>
  if !(r1) then
    some false
  else
    (F97 n a0.F.a1).bind fun (r2 : Bool) =>
    if !(r2) then
      some false
    else
      (F97 n a0.F.a2).bind fun (r3 : Bool) =>
      if !(r3) then
        some false
      else
        (F97 n a0.F.a3).bind fun (r4 : Bool) =>
        if !(r4) then
          some false
        else
          some true
theorem F56_ok (n : Nat) (a0 : Thing) : ∀ r, F56 n a0 = some r → D 56 [.agg (Thing.cells a0)] [] = some (F56_e r) := by
  refine fn_to (D := D) (n := n + 8) (nt := 14) (rs := pc56_r) (c := pc56_c26) (L := [(0, .agg (Thing.cells a0))]) (M := []) (k := 0) rfl rfl rfl rfl rfl rfl rfl ?_
  unfold F56
  refine Sim.sr 2 [(2, qb false), (1, qp 1 0)] [(1, some (.cells (Thing.cells a0)))] (.seq (.sr 1 [(3, qj 0)] [] (.block (.loop (.succ (.seq (.seq (.rg [(1, qp 1 0), (3, qj 0)] [(1, some (.cells (Thing.cells a0)))] (.rd 2 [(5, qb true), (4, qj 0)] [] (.thenN (.condT (by kernel_rfl) (.skip (.thenN (.seq (.block (.st 4 [(11, .agg [lj a0.F.a0.N, ls a0.F.a0.Text]), (10, qp 1 3), (9, qp 1 3), (8, qj 0)] [] (.cl 12 true [[]] 97 [Operand.tmp 11] none (fun r1 => qb r1) [.agg [lj a0.F.a0.N, ls a0.F.a0.Text]] (F97_ok n a0.F.a0) (fun r1 => ?_))))))))))))))))))
  refine SimI.rd 1 [(13, qb (!(r1)))] [] (.thenN (.cond (!(r1)) (by kernel_rfl) ?_ ?_))
  · exact Sim.sr 1 [(2, qb false)] [] (.ret (.blockR (.thenR (.loopR (.blockR (.thenR .fn))))))
  · refine Sim.skip (.blockN (.thenN (.region0 (.rd 3 [(3, qj 1), (7, qj 1), (6, qj 0)] [] (.loopN (.succ (.seq (.seq (.rg [(1, qp 1 0), (3, qj 1)] [(1, some (.cells (Thing.cells a0)))] (.rd 2 [(5, qb true), (4, qj 1)] [] (.thenN (.condT (by kernel_rfl) (.skip (.thenN (.seq (.block (.st 4 [(11, .agg [lj a0.F.a1.N, ls a0.F.a1.Text]), (10, qp 1 5), (9, qp 1 3), (8, qj 1)] [] (.cl 12 true [[]] 97 [Operand.tmp 11] none (fun r2 => qb r2) [.agg [lj a0.F.a1.N, ls a0.F.a1.Text]] (F97_ok n a0.F.a1) (fun r2 => ?_)))))))))))))))))))
    refine SimI.rd 1 [(13, qb (!(r2)))] [] (.thenN (.cond (!(r2)) (by kernel_rfl) ?_ ?_))
    · exact Sim.sr 1 [(2, qb false)] [] (.ret (.blockR (.thenR (.loopR (.blockR (.thenR .fn))))))
    · refine Sim.skip (.blockN (.thenN (.region0 (.rd 3 [(3, qj 2), (7, qj 2), (6, qj 1)] [] (.loopN (.succ (.seq (.seq (.rg [(1, qp 1 0), (3, qj 2)] [(1, some (.cells (Thing.cells a0)))] (.rd 2 [(5, qb true), (4, qj 2)] [] (.thenN (.condT (by kernel_rfl) (.skip (.thenN (.seq (.block (.st 4 [(11, .agg [lj a0.F.a2.N, ls a0.F.a2.Text]), (10, qp 1 7), (9, qp 1 3), (8, qj 2)] [] (.cl 12 true [[]] 97 [Operand.tmp 11] none (fun r3 => qb r3) [.agg [lj a0.F.a2.N, ls a0.F.a2.Text]] (F97_ok n a0.F.a2) (fun r3 => ?_)))))))))))))))))))
      refine SimI.rd 1 [(13, qb (!(r3)))] [] (.thenN (.cond (!(r3)) (by kernel_rfl) ?_ ?_))
      · exact Sim.sr 1 [(2, qb false)] [] (.ret (.blockR (.thenR (.loopR (.blockR (.thenR .fn))))))
      · refine Sim.skip (.blockN (.thenN (.region0 (.rd 3 [(3, qj 3), (7, qj 3), (6, qj 2)] [] (.loopN (.succ (.seq (.seq (.rg [(1, qp 1 0), (3, qj 3)] [(1, some (.cells (Thing.cells a0)))] (.rd 2 [(5, qb true), (4, qj 3)] [] (.thenN (.condT (by kernel_rfl) (.skip (.thenN (.seq (.block (.st 4 [(11, .agg [lj a0.F.a3.N, ls a0.F.a3.Text]), (10, qp 1 9), (9, qp 1 3), (8, qj 3)] [] (.cl 12 true [[]] 97 [Operand.tmp 11] none (fun r4 => qb r4) [.agg [lj a0.F.a3.N, ls a0.F.a3.Text]] (F97_ok n a0.F.a3) (fun r4 => ?_)))))))))))))))))))
        refine SimI.rd 1 [(13, qb (!(r4)))] [] (.thenN (.cond (!(r4)) (by kernel_rfl) ?_ ?_))
        · exact Sim.sr 1 [(2, qb false)] [] (.ret (.blockR (.thenR (.loopR (.blockR (.thenR .fn))))))
        · exact Sim.skip (.blockN (.thenN (.region0 (.rd 3 [(3, qj 4), (7, qj 4), (6, qj 3)] [] (.loopN (.succ (.seq (.seq (.rg [(1, qp 1 0), (3, qj 4)] [(1, some (.cells (Thing.cells a0)))] (.rd 2 [(5, qb false), (4, qj 4)] [] (.thenN (.condF (by kernel_rfl) (.exit (.thenX (.loopX (.blockX (.thenN (.sr 1 [(2, qb true)] [] (.ret .fn)))))))))))))))))))


-- 43: vedette/vedettelaw15.fewThings
def F43_e : Bool → PV × List Ob := fun r => (.one (lb r), [])
def F43_l4 (n : Nat) (a0 : (List Thing)) : Nat → Int → Option Bool
  | 0, _ => none
  | m + 1, i3 =>
    if decide (i3 < ((a0).length : Int)) then
      (ix a0 i3).bind fun (x5 : Thing) =>
      (F56 n x5).bind fun (r6 : Bool) =>
      if !(r6) then
        some false
      else
        (F43_l4 n a0 m) (IntKind.wrap .i64 (i3 + 1))
    else
      some (decide (((a0).length : Int) ≤ 30))
theorem F43_l4_ok (n : Nat) (a0 : (List Thing)) : ∀ (m : Nat) (i3 : Int), SimL Try.prog D (n + 8) m pc43_c18 [(0, .one (vw Thing.cod a0)), (3, qj i3)] [] (F43_l4 n a0 m i3) (QB 0 (QT Try.prog D (n + 8) pc43_c24 (QF false pc43_r 0 F43_e))) := by
  intro m_l4
  induction m_l4 with
  | zero => intro i3; exact SimL.zero'  rfl
  | succ m_l4 ih_l4 =>
    intro i3
    refine SimL.succ ?_
    unfold F43_l4
    refine Sim.seq (.seq (.rg [(0, .one (vw Thing.cod a0)), (3, qj i3)] [] (.rd 4 [(7, qb (decide (i3 < ((a0).length : Int)))), (6, qj ((a0).length : Int)), (5, .one (vw Thing.cod a0)), (4, qj i3)] [] (.thenN (.cond (decide (i3 < ((a0).length : Int))) (by kernel_rfl) ?_ ?_)))))
    · refine Sim.skip (.thenN (.seq (.block (.st 2 [(11, qj i3), (10, .one (vw Thing.cod a0))] [] (.bind (og := ix a0 i3) ⟨some 12, POp.iaddrS 11 (Operand.tmp 10) (Operand.tmp 11), none, []⟩ (fun x5 => [(12, .one (.eptr (Thing.cod.enc x5) 0))]) (fun x5 => []) (by kernel_rfl) (fun x5 hr => pOp_eff (by kernel_rfl) (by kernel_rfl) (eff_idx (c := Thing.cod) (l := a0) (k := .i64) (n := i3) (by kernel_rfl) (by kernel_rfl) (by kernel_rfl) hr)) (fun x5 => ?_))))))
      refine SimI.rn 1 [(13, .agg (Thing.cells x5))] [] (.cl 14 true [[]] 56 [Operand.tmp 13] none (fun r6 => qb r6) [.agg (Thing.cells x5)] (F56_ok n x5) (fun r6 => ?_))
      refine SimI.rd 1 [(15, qb (!(r6)))] [] (.thenN (.cond (!(r6)) (by kernel_rfl) ?_ ?_))
      · exact Sim.sr 1 [(2, qb false)] [] (.ret (.blockR (.thenR (.loopR (.blockR (.thenR .fn))))))
      · refine Sim.skip (.blockN (.thenN (.region0 (.rd 3 [(3, qj (IntKind.wrap .i64 (i3 + 1))), (9, qj (IntKind.wrap .i64 (i3 + 1))), (8, qj i3)] [] (.loopN (.pr [0, 3] [] [] [(0, .one (vw Thing.cod a0)), (3, qj (IntKind.wrap .i64 (i3 + 1)))] [] ?_))))))
        exact ih_l4 (IntKind.wrap .i64 (i3 + 1))
    · exact Sim.exit (.thenX (.loopX (.blockX (.thenN (.sr 4 [(2, qb (decide (((a0).length : Int) ≤ 30))), (18, qb (decide (((a0).length : Int) ≤ 30))), (17, qj ((a0).length : Int)), (16, .one (vw Thing.cod a0))] [] (.ret .fn))))))

def F43 (n : Nat) (a0 : (List Thing)) : Option Bool :=
  F43_l4 n a0 (n + 8) 0
theorem F43_ok (n : Nat) (a0 : (List Thing)) : ∀ r, F43 n a0 = some r → D 43 [.one (vw Thing.cod a0)] [] = some (F43_e r) := by
  refine fn_to (D := D) (n := n + 8) (nt := 19) (rs := pc43_r) (c := pc43_c26) (L := [(0, .one (vw Thing.cod a0))]) (M := []) (k := 0) rfl rfl rfl rfl rfl rfl rfl ?_
  unfold F43
  refine Sim.sr 1 [(2, qb false)] [] (.seq (.sr 1 [(3, qj 0)] [] (.block (.loop (.pr [0, 3] [] [] [(0, .one (vw Thing.cod a0)), (3, qj 0)] [] ?_)))))
  exact F43_l4_ok n a0 (n + 8) 0


-- 44: vedette/vedettelaw15.fewEvents
def F44_e : Bool → PV × List Ob := fun r => (.one (lb r), [])
def F44_l4 (n : Nat) (a0 : (List Event)) : Nat → Int → Option Bool
  | 0, _ => none
  | m + 1, i3 =>
    if decide (i3 < ((a0).length : Int)) then
      (ix a0 i3).bind fun (x5 : Event) =>
      (F56 n x5.Thing).bind fun (r6 : Bool) =>
      if !(r6) then
        some false
      else
        (ix a0 i3).bind fun (x7 : Event) =>
        (F56 n (Thing.mk 0 (Point.mk 0 0) x7.Delta.F)).bind fun (r8 : Bool) =>
        if !(r8) then
          some false
        else
          (F44_l4 n a0 m) (IntKind.wrap .i64 (i3 + 1))
    else
      some (decide (((a0).length : Int) ≤ 30))
theorem F44_l4_ok (n : Nat) (a0 : (List Event)) : ∀ (m : Nat) (i3 : Int), SimL Try.prog D (n + 8) m pc44_c18 [(0, .one (vw Event.cod a0)), (3, qj i3)] [] (F44_l4 n a0 m i3) (QB 0 (QT Try.prog D (n + 8) pc44_c24 (QF false pc44_r 0 F44_e))) := by
  intro m_l4
  induction m_l4 with
  | zero => intro i3; exact SimL.zero'  rfl
  | succ m_l4 ih_l4 =>
    intro i3
    refine SimL.succ ?_
    unfold F44_l4
    refine Sim.seq (.seq (.rg [(0, .one (vw Event.cod a0)), (3, qj i3)] [] (.rd 4 [(7, qb (decide (i3 < ((a0).length : Int)))), (6, qj ((a0).length : Int)), (5, .one (vw Event.cod a0)), (4, qj i3)] [] (.thenN (.cond (decide (i3 < ((a0).length : Int))) (by kernel_rfl) ?_ ?_)))))
    · refine Sim.skip (.thenN (.seq (.block (.st 2 [(11, qj i3), (10, .one (vw Event.cod a0))] [] (.bind (og := ix a0 i3) ⟨some 12, POp.iaddrS 25 (Operand.tmp 10) (Operand.tmp 11), none, []⟩ (fun x5 => [(12, .one (.eptr (Event.cod.enc x5) 0))]) (fun x5 => []) (by kernel_rfl) (fun x5 hr => pOp_eff (by kernel_rfl) (by kernel_rfl) (eff_idx (c := Event.cod) (l := a0) (k := .i64) (n := i3) (by kernel_rfl) (by kernel_rfl) (by kernel_rfl) hr)) (fun x5 => ?_))))))
      refine SimI.rn 2 [(14, .agg (Thing.cells x5.Thing)), (13, .one (.eptr (Event.cod.enc x5) 2))] [] (.cl 15 true [[]] 56 [Operand.tmp 14] none (fun r6 => qb r6) [.agg (Thing.cells x5.Thing)] (F56_ok n x5.Thing) (fun r6 => ?_))
      refine SimI.rn 2 [(17, qb (!(r6))), (16, qb (!(r6)))] [] (.split 17 (!(r6)) (by kernel_rfl) ?_ ?_)
      · exact SimI.rd 10 [(27, qb true), (26, .tup []), (25, .tup []), (24, .tup []), (23, .tup []), (22, .tup []), (21, .tup []), (20, .tup []), (19, .tup []), (18, .tup [])] [] (.thenN (.condT (by kernel_rfl) (.sr 1 [(2, qb false)] [] (.ret (.blockR (.thenR (.loopR (.blockR (.thenR .fn)))))))))
      · refine SimI.rn 2 [(19, qj i3), (18, .one (vw Event.cod a0))] [] (.bind (og := ix a0 i3) ⟨some 20, POp.iaddrS 25 (Operand.tmp 18) (Operand.tmp 19), some (17, false), []⟩ (fun x7 => [(20, .one (.eptr (Event.cod.enc x7) 0))]) (fun x7 => []) (by kernel_rfl) (fun x7 hr => pOp_eff (by kernel_rfl) (by kernel_rfl) (eff_idx (c := Event.cod) (l := a0) (k := .i64) (n := i3) (by kernel_rfl) (by kernel_rfl) (by kernel_rfl) hr)) (fun x7 => ?_))
        refine SimI.rn 4 [(24, .agg [lj 0, lj 0, lj 0, lj x7.Delta.F.a0.N, ls x7.Delta.F.a0.Text, lj x7.Delta.F.a1.N, ls x7.Delta.F.a1.Text, lj x7.Delta.F.a2.N, ls x7.Delta.F.a2.Text, lj x7.Delta.F.a3.N, ls x7.Delta.F.a3.Text]), (23, .agg (A4_Field.cells x7.Delta.F)), (22, .one (.eptr (Event.cod.enc x7) 17)), (21, .one (.eptr (Event.cod.enc x7) 13))] [] (.cl 25 true [[]] 56 [Operand.tmp 24] (some (17, false)) (fun r8 => qb r8) [.agg [lj 0, lj 0, lj 0, lj x7.Delta.F.a0.N, ls x7.Delta.F.a0.Text, lj x7.Delta.F.a1.N, ls x7.Delta.F.a1.Text, lj x7.Delta.F.a2.N, ls x7.Delta.F.a2.Text, lj x7.Delta.F.a3.N, ls x7.Delta.F.a3.Text]] (F56_ok n (Thing.mk 0 (Point.mk 0 0) x7.Delta.F)) (fun r8 => ?_))
        refine SimI.rd 2 [(27, qb (!(r8))), (26, qb (!(r8)))] [] (.thenN (.cond (!(r8)) (by kernel_rfl) ?_ ?_))
        · exact Sim.sr 1 [(2, qb false)] [] (.ret (.blockR (.thenR (.loopR (.blockR (.thenR .fn))))))
        · refine Sim.skip (.blockN (.thenN (.region0 (.rd 3 [(3, qj (IntKind.wrap .i64 (i3 + 1))), (9, qj (IntKind.wrap .i64 (i3 + 1))), (8, qj i3)] [] (.loopN (.pr [0, 3] [] [] [(0, .one (vw Event.cod a0)), (3, qj (IntKind.wrap .i64 (i3 + 1)))] [] ?_))))))
          exact ih_l4 (IntKind.wrap .i64 (i3 + 1))
    · exact Sim.exit (.thenX (.loopX (.blockX (.thenN (.sr 4 [(2, qb (decide (((a0).length : Int) ≤ 30))), (30, qb (decide (((a0).length : Int) ≤ 30))), (29, qj ((a0).length : Int)), (28, .one (vw Event.cod a0))] [] (.ret .fn))))))

def F44 (n : Nat) (a0 : (List Event)) : Option Bool :=
  F44_l4 n a0 (n + 8) 0
theorem F44_ok (n : Nat) (a0 : (List Event)) : ∀ r, F44 n a0 = some r → D 44 [.one (vw Event.cod a0)] [] = some (F44_e r) := by
  refine fn_to (D := D) (n := n + 8) (nt := 31) (rs := pc44_r) (c := pc44_c26) (L := [(0, .one (vw Event.cod a0))]) (M := []) (k := 0) rfl rfl rfl rfl rfl rfl rfl ?_
  unfold F44
  refine Sim.sr 1 [(2, qb false)] [] (.seq (.sr 1 [(3, qj 0)] [] (.block (.loop (.pr [0, 3] [] [] [(0, .one (vw Event.cod a0)), (3, qj 0)] [] ?_)))))
  exact F44_l4_ok n a0 (n + 8) 0


-- 58: vedette/vedetteref3.On
def F58_e : Bool → PV × List Ob := fun r => (.one (lb r), [])
def F58 (n : Nat) (a0 : Point) : Option Bool :=
  if decide ((0 : Int) ≤ a0.X) then
    if decide (a0.X < 64) then
      if decide ((0 : Int) ≤ a0.Y) then
        some (decide (a0.Y < 64))
      else
        some false
    else
      some false
  else
    some false
theorem F58_ok (n : Nat) (a0 : Point) : ∀ r, F58 n a0 = some r → D 58 [.agg [li .i64 a0.X, li .i64 a0.Y]] [] = some (F58_e r) := by
  refine fn_to (D := D) (n := n + 8) (nt := 21) (rs := pc58_r) (c := pc58_c5) (L := [(0, .agg [lj a0.X, lj a0.Y])]) (M := []) (k := 0) rfl rfl rfl rfl rfl rfl rfl ?_
  unfold F58
  refine Sim.sr 2 [(2, qb false), (1, qp 1 0)] [(1, some (.cells [lj a0.X, lj a0.Y]))] (.st 4 [(6, qb (decide ((0 : Int) ≤ a0.X))), (5, qb (decide ((0 : Int) ≤ a0.X))), (4, qj a0.X), (3, qp 1 0)] [] (.split 6 (decide ((0 : Int) ≤ a0.X)) (by kernel_rfl) ?_ ?_))
  · refine SimI.rn 5 [(11, qb (decide (a0.X < 64))), (10, qb (decide (a0.X < 64))), (9, qb (decide (a0.X < 64))), (8, qj a0.X), (7, qp 1 0)] [] (.split 11 (decide (a0.X < 64)) (by kernel_rfl) ?_ ?_)
    · refine SimI.rn 5 [(16, qb (decide ((0 : Int) ≤ a0.Y))), (15, qb (decide ((0 : Int) ≤ a0.Y))), (14, qb (decide ((0 : Int) ≤ a0.Y))), (13, qj a0.Y), (12, qp 1 1)] [] (.split 16 (decide ((0 : Int) ≤ a0.Y)) (by kernel_rfl) ?_ ?_)
      · exact SimI.rd 5 [(2, qb (decide (a0.Y < 64))), (20, qb (decide (a0.Y < 64))), (19, qb (decide (a0.Y < 64))), (18, qj a0.Y), (17, qp 1 1)] [] (.thenN (.ret .fn))
      · exact SimI.rd 5 [(2, qb false), (20, qb false), (19, .tup []), (18, .tup []), (17, .tup [])] [] (.thenN (.ret .fn))
    · exact SimI.rd 10 [(2, qb false), (20, qb false), (19, .tup []), (18, .tup []), (17, .tup []), (16, qb false), (15, qb false), (14, .tup []), (13, .tup []), (12, .tup [])] [] (.thenN (.ret .fn))
  · exact SimI.rd 15 [(2, qb false), (20, qb false), (19, .tup []), (18, .tup []), (17, .tup []), (16, qb false), (15, qb false), (14, .tup []), (13, .tup []), (12, .tup []), (11, qb false), (10, qb false), (9, .tup []), (8, .tup []), (7, .tup [])] [] (.thenN (.ret .fn))


-- 59: vedette/vedetteref6.IsField
def F59_e : Bool → PV × List Ob := fun r => (.one (lb r), [])
def F59 (n : Nat) (a0 : Field) : Option Bool :=
  if a0.N == 0 then
    some (decide ((a0.Text.size : Int) ≤ 12))
  else
    if a0.Text.toList == ByteArray.empty.toList then
      some (decide ((a0.Text.size : Int) ≤ 12))
    else
      some false
theorem F59_ok (n : Nat) (a0 : Field) : ∀ r, F59 n a0 = some r → D 59 [.agg [li .i64 a0.N, ls a0.Text]] [] = some (F59_e r) := by
  refine fn_to (D := D) (n := n + 8) (nt := 17) (rs := pc59_r) (c := pc59_c5) (L := [(0, .agg [lj a0.N, ls a0.Text])]) (M := []) (k := 0) rfl rfl rfl rfl rfl rfl rfl ?_
  unfold F59
  refine Sim.sr 2 [(2, qb false), (1, qp 1 0)] [(1, some (.cells [lj a0.N, ls a0.Text]))] (.st 4 [(6, qb (a0.N == 0)), (5, qb (a0.N == 0)), (4, qj a0.N), (3, qp 1 0)] [] (.split 6 (a0.N == 0) (by kernel_rfl) ?_ ?_))
  · exact SimI.rd 11 [(2, qb (decide ((a0.Text.size : Int) ≤ 12))), (16, qb (decide ((a0.Text.size : Int) ≤ 12))), (15, qb (decide ((a0.Text.size : Int) ≤ 12))), (14, qj (a0.Text.size : Int)), (13, qs a0.Text), (12, qp 1 1), (11, qb true), (10, qb true), (9, .tup []), (8, .tup []), (7, .tup [])] [] (.thenN (.ret .fn))
  · refine SimI.rn 5 [(11, qb (a0.Text.toList == be.toList)), (10, qb (a0.Text.toList == be.toList)), (9, qb (a0.Text.toList == be.toList)), (8, qs a0.Text), (7, qp 1 1)] [] (.split 11 (a0.Text.toList == be.toList) (by kernel_rfl) ?_ ?_)
    · exact SimI.rd 6 [(2, qb (decide ((a0.Text.size : Int) ≤ 12))), (16, qb (decide ((a0.Text.size : Int) ≤ 12))), (15, qb (decide ((a0.Text.size : Int) ≤ 12))), (14, qj (a0.Text.size : Int)), (13, qs a0.Text), (12, qp 1 1)] [] (.thenN (.ret .fn))
    · exact SimI.rd 6 [(2, qb false), (16, qb false), (15, .tup []), (14, .tup []), (13, .tup []), (12, .tup [])] [] (.thenN (.ret .fn))


-- 18: vedette/vedetteref6.Is
def F18_e : Bool → PV × List Ob := fun r => (.one (lb r), [])
def F18_u15 (n : Nat) (b14 : Bool) : Option Bool :=
    some b14
theorem F18_u15_ok (n : Nat) (a0 : Thing) (b14 : Bool) : SimL Try.prog D (n + 8) (n + 4) pc18_c13 [(1, qp 1 0), (3, qb b14), (4, qj 4)] [(1, some (.cells (Thing.cells a0)))] (F18_u15 n b14) (QB 0 (QT Try.prog D (n + 8) pc18_c19 (QF false pc18_r 0 F18_e))) := by
    unfold F18_u15
    exact SimL.succ (.seq (.seq (.rg [(1, qp 1 0), (3, qb b14), (4, qj 4)] [(1, some (.cells (Thing.cells a0)))] (.rd 2 [(19, qb false), (18, qj 4)] [] (.thenN (.condF (by kernel_rfl) (.exit (.thenX (.loopX (.blockX (.thenN (.sr 2 [(2, qb b14), (30, qb b14)] [] (.ret .fn)))))))))))))

def F18_u12 (n : Nat) (a0 : Thing) (b11 : Bool) : Option Bool :=
    if b11 then
      (F59 n a0.F.a3).bind fun (r13 : Bool) =>
      F18_u15 n r13
    else
      F18_u15 n false
theorem F18_u12_ok (n : Nat) (a0 : Thing) (b11 : Bool) : SimL Try.prog D (n + 8) (n + 5) pc18_c13 [(1, qp 1 0), (3, qb b11), (4, qj 3)] [(1, some (.cells (Thing.cells a0)))] (F18_u12 n a0 b11) (QB 0 (QT Try.prog D (n + 8) pc18_c19 (QF false pc18_r 0 F18_e))) := by
    unfold F18_u12
    refine SimL.succ (.seq (.seq (.rg [(1, qp 1 0), (3, qb b11), (4, qj 3)] [(1, some (.cells (Thing.cells a0)))] (.rd 2 [(19, qb true), (18, qj 3)] [] (.thenN (.condT (by kernel_rfl) (.skip (.thenN (.seq (.block (.region0 (.rn 2 [(23, qb b11), (22, qb b11)] [] (.split 23 b11 (by kernel_rfl) ?_ ?_)))))))))))))
    · refine SimI.rn 4 [(27, .agg [lj a0.F.a3.N, ls a0.F.a3.Text]), (26, qp 1 9), (25, qp 1 3), (24, qj 3)] [] (.cl 28 true [[]] 59 [Operand.tmp 27] (some (23, true)) (fun r13 => qb r13) [.agg [lj a0.F.a3.N, ls a0.F.a3.Text]] (F59_ok n a0.F.a3) (fun r13 => ?_))
      refine SimI.rd 2 [(3, qb r13), (29, qb r13)] [] (.blockN (.thenN (.region0 (.rd 3 [(4, qj 4), (21, qj 4), (20, qj 3)] [] (.loopN (.pr [1, 3, 4] [1] [] [(1, qp 1 0), (3, qb r13), (4, qj 4)] [(1, some (.cells (Thing.cells a0)))] ?_))))))
      exact F18_u15_ok n a0 r13
    · refine SimI.rd 7 [(3, qb false), (29, qb false), (28, .tup []), (27, .tup []), (26, .tup []), (25, .tup []), (24, .tup [])] [] (.blockN (.thenN (.region0 (.rd 3 [(4, qj 4), (21, qj 4), (20, qj 3)] [] (.loopN (.pr [1, 3, 4] [1] [] [(1, qp 1 0), (3, qb false), (4, qj 4)] [(1, some (.cells (Thing.cells a0)))] ?_))))))
      exact F18_u15_ok n a0 false

def F18_u9 (n : Nat) (a0 : Thing) (b8 : Bool) : Option Bool :=
    if b8 then
      (F59 n a0.F.a2).bind fun (r10 : Bool) =>
      F18_u12 n a0 r10
    else
      F18_u12 n a0 false
theorem F18_u9_ok (n : Nat) (a0 : Thing) (b8 : Bool) : SimL Try.prog D (n + 8) (n + 6) pc18_c13 [(1, qp 1 0), (3, qb b8), (4, qj 2)] [(1, some (.cells (Thing.cells a0)))] (F18_u9 n a0 b8) (QB 0 (QT Try.prog D (n + 8) pc18_c19 (QF false pc18_r 0 F18_e))) := by
    unfold F18_u9
    refine SimL.succ (.seq (.seq (.rg [(1, qp 1 0), (3, qb b8), (4, qj 2)] [(1, some (.cells (Thing.cells a0)))] (.rd 2 [(19, qb true), (18, qj 2)] [] (.thenN (.condT (by kernel_rfl) (.skip (.thenN (.seq (.block (.region0 (.rn 2 [(23, qb b8), (22, qb b8)] [] (.split 23 b8 (by kernel_rfl) ?_ ?_)))))))))))))
    · refine SimI.rn 4 [(27, .agg [lj a0.F.a2.N, ls a0.F.a2.Text]), (26, qp 1 7), (25, qp 1 3), (24, qj 2)] [] (.cl 28 true [[]] 59 [Operand.tmp 27] (some (23, true)) (fun r10 => qb r10) [.agg [lj a0.F.a2.N, ls a0.F.a2.Text]] (F59_ok n a0.F.a2) (fun r10 => ?_))
      refine SimI.rd 2 [(3, qb r10), (29, qb r10)] [] (.blockN (.thenN (.region0 (.rd 3 [(4, qj 3), (21, qj 3), (20, qj 2)] [] (.loopN (.pr [1, 3, 4] [1] [] [(1, qp 1 0), (3, qb r10), (4, qj 3)] [(1, some (.cells (Thing.cells a0)))] ?_))))))
      exact F18_u12_ok n a0 r10
    · refine SimI.rd 7 [(3, qb false), (29, qb false), (28, .tup []), (27, .tup []), (26, .tup []), (25, .tup []), (24, .tup [])] [] (.blockN (.thenN (.region0 (.rd 3 [(4, qj 3), (21, qj 3), (20, qj 2)] [] (.loopN (.pr [1, 3, 4] [1] [] [(1, qp 1 0), (3, qb false), (4, qj 3)] [(1, some (.cells (Thing.cells a0)))] ?_))))))
      exact F18_u12_ok n a0 false

def F18_u6 (n : Nat) (a0 : Thing) (b5 : Bool) : Option Bool :=
    if b5 then
      (F59 n a0.F.a1).bind fun (r7 : Bool) =>
      F18_u9 n a0 r7
    else
      F18_u9 n a0 false
theorem F18_u6_ok (n : Nat) (a0 : Thing) (b5 : Bool) : SimL Try.prog D (n + 8) (n + 7) pc18_c13 [(1, qp 1 0), (3, qb b5), (4, qj 1)] [(1, some (.cells (Thing.cells a0)))] (F18_u6 n a0 b5) (QB 0 (QT Try.prog D (n + 8) pc18_c19 (QF false pc18_r 0 F18_e))) := by
    unfold F18_u6
    refine SimL.succ (.seq (.seq (.rg [(1, qp 1 0), (3, qb b5), (4, qj 1)] [(1, some (.cells (Thing.cells a0)))] (.rd 2 [(19, qb true), (18, qj 1)] [] (.thenN (.condT (by kernel_rfl) (.skip (.thenN (.seq (.block (.region0 (.rn 2 [(23, qb b5), (22, qb b5)] [] (.split 23 b5 (by kernel_rfl) ?_ ?_)))))))))))))
    · refine SimI.rn 4 [(27, .agg [lj a0.F.a1.N, ls a0.F.a1.Text]), (26, qp 1 5), (25, qp 1 3), (24, qj 1)] [] (.cl 28 true [[]] 59 [Operand.tmp 27] (some (23, true)) (fun r7 => qb r7) [.agg [lj a0.F.a1.N, ls a0.F.a1.Text]] (F59_ok n a0.F.a1) (fun r7 => ?_))
      refine SimI.rd 2 [(3, qb r7), (29, qb r7)] [] (.blockN (.thenN (.region0 (.rd 3 [(4, qj 2), (21, qj 2), (20, qj 1)] [] (.loopN (.pr [1, 3, 4] [1] [] [(1, qp 1 0), (3, qb r7), (4, qj 2)] [(1, some (.cells (Thing.cells a0)))] ?_))))))
      exact F18_u9_ok n a0 r7
    · refine SimI.rd 7 [(3, qb false), (29, qb false), (28, .tup []), (27, .tup []), (26, .tup []), (25, .tup []), (24, .tup [])] [] (.blockN (.thenN (.region0 (.rd 3 [(4, qj 2), (21, qj 2), (20, qj 1)] [] (.loopN (.pr [1, 3, 4] [1] [] [(1, qp 1 0), (3, qb false), (4, qj 2)] [(1, some (.cells (Thing.cells a0)))] ?_))))))
      exact F18_u9_ok n a0 false

def F18_j3 (n : Nat) (a0 : Thing) (b2 : Bool) : Option Bool :=
    if b2 then
      (F59 n a0.F.a0).bind fun (r4 : Bool) =>
      F18_u6 n a0 r4
    else
      F18_u6 n a0 false
theorem F18_j3_ok (n : Nat) (a0 : Thing) (b2 : Bool) : Sim Try.prog D (n + 8) pc18_c20 [(1, qp 1 0), (3, qb b2)] [(1, some (.cells (Thing.cells a0)))] (F18_j3 n a0 b2) (QF false pc18_r 0 F18_e) := by
    unfold F18_j3
    refine Sim.seq (.seq (.rg [(1, qp 1 0), (3, qb b2)] [(1, some (.cells (Thing.cells a0)))] (.rd 1 [(4, qj 0)] [] (.thenN (.block (.loop (.succ (.seq (.seq (.rg [(1, qp 1 0), (3, qb b2), (4, qj 0)] [(1, some (.cells (Thing.cells a0)))] (.rd 2 [(19, qb true), (18, qj 0)] [] (.thenN (.condT (by kernel_rfl) (.skip (.thenN (.seq (.block (.region0 (.rn 2 [(23, qb b2), (22, qb b2)] [] (.split 23 b2 (by kernel_rfl) ?_ ?_))))))))))))))))))))
    · refine SimI.rn 4 [(27, .agg [lj a0.F.a0.N, ls a0.F.a0.Text]), (26, qp 1 3), (25, qp 1 3), (24, qj 0)] [] (.cl 28 true [[]] 59 [Operand.tmp 27] (some (23, true)) (fun r4 => qb r4) [.agg [lj a0.F.a0.N, ls a0.F.a0.Text]] (F59_ok n a0.F.a0) (fun r4 => ?_))
      refine SimI.rd 2 [(3, qb r4), (29, qb r4)] [] (.blockN (.thenN (.region0 (.rd 3 [(4, qj 1), (21, qj 1), (20, qj 0)] [] (.loopN (.pr [1, 3, 4] [1] [] [(1, qp 1 0), (3, qb r4), (4, qj 1)] [(1, some (.cells (Thing.cells a0)))] ?_))))))
      exact F18_u6_ok n a0 r4
    · refine SimI.rd 7 [(3, qb false), (29, qb false), (28, .tup []), (27, .tup []), (26, .tup []), (25, .tup []), (24, .tup [])] [] (.blockN (.thenN (.region0 (.rd 3 [(4, qj 1), (21, qj 1), (20, qj 0)] [] (.loopN (.pr [1, 3, 4] [1] [] [(1, qp 1 0), (3, qb false), (4, qj 1)] [(1, some (.cells (Thing.cells a0)))] ?_))))))
      exact F18_u6_ok n a0 false

def F18 (n : Nat) (a0 : Thing) : Option Bool :=
  if decide ((0 : Int) ≤ a0.ID) then
    if decide (a0.ID ≤ 1000000) then
      (F58 n a0.At).bind fun (r1 : Bool) =>
      F18_j3 n a0 r1
    else
      F18_j3 n a0 false
  else
    F18_j3 n a0 false
theorem F18_ok (n : Nat) (a0 : Thing) : ∀ r, F18 n a0 = some r → D 18 [.agg (Thing.cells a0)] [] = some (F18_e r) := by
  refine fn_to (D := D) (n := n + 8) (nt := 31) (rs := pc18_r) (c := pc18_c22) (L := [(0, .agg (Thing.cells a0))]) (M := []) (k := 0) rfl rfl rfl rfl rfl rfl rfl ?_
  unfold F18
  refine Sim.sr 2 [(2, qb false), (1, qp 1 0)] [(1, some (.cells (Thing.cells a0)))] (.st 4 [(8, qb (decide ((0 : Int) ≤ a0.ID))), (7, qb (decide ((0 : Int) ≤ a0.ID))), (6, qj a0.ID), (5, qp 1 0)] [] (.split 8 (decide ((0 : Int) ≤ a0.ID)) (by kernel_rfl) ?_ ?_))
  · refine SimI.rn 5 [(13, qb (decide (a0.ID ≤ 1000000))), (12, qb (decide (a0.ID ≤ 1000000))), (11, qb (decide (a0.ID ≤ 1000000))), (10, qj a0.ID), (9, qp 1 0)] [] (.split 13 (decide (a0.ID ≤ 1000000)) (by kernel_rfl) ?_ ?_)
    · refine SimI.rn 2 [(15, .agg [lj a0.At.X, lj a0.At.Y]), (14, qp 1 1)] [] (.cl 16 true [[]] 58 [Operand.tmp 15] (some (13, true)) (fun r1 => qb r1) [.agg [lj a0.At.X, lj a0.At.Y]] (F58_ok n a0.At) (fun r1 => ?_))
      refine SimI.rd 2 [(3, qb r1), (17, qb r1)] [] (.thenN (.pr [1, 3] [1] [] [(1, qp 1 0), (3, qb r1)] [(1, some (.cells (Thing.cells a0)))] ?_))
      exact F18_j3_ok n a0 r1
    · refine SimI.rd 5 [(3, qb false), (17, qb false), (16, .tup []), (15, .tup []), (14, .tup [])] [] (.thenN (.pr [1, 3] [1] [] [(1, qp 1 0), (3, qb false)] [(1, some (.cells (Thing.cells a0)))] ?_))
      exact F18_j3_ok n a0 false
  · refine SimI.rd 10 [(3, qb false), (17, qb false), (16, .tup []), (15, .tup []), (14, .tup []), (13, qb false), (12, qb false), (11, .tup []), (10, .tup []), (9, .tup [])] [] (.thenN (.pr [1, 3] [1] [] [(1, qp 1 0), (3, qb false)] [(1, some (.cells (Thing.cells a0)))] ?_))
    exact F18_j3_ok n a0 false


-- 45: vedette/vedettelaw15.rising
def F45_e : Bool → PV × List Ob := fun r => (.one (lb r), [])
def F45_l4 (n : Nat) (a0 : (List Thing)) : Nat → Int → Option Bool
  | 0, _ => none
  | m + 1, i3 =>
    if decide (i3 < ((a0).length : Int)) then
      (ix a0 i3).bind fun (x5 : Thing) =>
      (F18 n x5).bind fun (r6 : Bool) =>
      if !(r6) then
        some false
      else
        if decide ((0 : Int) < i3) then
          (ix a0 i3).bind fun (x7 : Thing) =>
          (ix a0 (IntKind.wrap .i64 (i3 - 1))).bind fun (x8 : Thing) =>
          if decide (x7.ID ≤ x8.ID) then
            some false
          else
            (F45_l4 n a0 m) (IntKind.wrap .i64 (i3 + 1))
        else
          (F45_l4 n a0 m) (IntKind.wrap .i64 (i3 + 1))
    else
      some true
theorem F45_l4_ok (n : Nat) (a0 : (List Thing)) : ∀ (m : Nat) (i3 : Int), SimL Try.prog D (n + 8) m pc45_c18 [(0, .one (vw Thing.cod a0)), (3, qj i3)] [] (F45_l4 n a0 m i3) (QB 0 (QT Try.prog D (n + 8) pc45_c24 (QF false pc45_r 0 F45_e))) := by
  intro m_l4
  induction m_l4 with
  | zero => intro i3; exact SimL.zero'  rfl
  | succ m_l4 ih_l4 =>
    intro i3
    refine SimL.succ ?_
    unfold F45_l4
    refine Sim.seq (.seq (.rg [(0, .one (vw Thing.cod a0)), (3, qj i3)] [] (.rd 4 [(7, qb (decide (i3 < ((a0).length : Int)))), (6, qj ((a0).length : Int)), (5, .one (vw Thing.cod a0)), (4, qj i3)] [] (.thenN (.cond (decide (i3 < ((a0).length : Int))) (by kernel_rfl) ?_ ?_)))))
    · refine Sim.skip (.thenN (.seq (.block (.st 2 [(11, qj i3), (10, .one (vw Thing.cod a0))] [] (.bind (og := ix a0 i3) ⟨some 12, POp.iaddrS 11 (Operand.tmp 10) (Operand.tmp 11), none, [(10, Hint.imm), (11, Hint.imm)]⟩ (fun x5 => [(12, .one (.eptr (Thing.cod.enc x5) 0))]) (fun x5 => []) (by kernel_rfl) (fun x5 hr => pOp_eff (by kernel_rfl) (by kernel_rfl) (eff_idx (c := Thing.cod) (l := a0) (k := .i64) (n := i3) (by kernel_rfl) (by kernel_rfl) (by kernel_rfl) hr)) (fun x5 => ?_))))))
      refine SimI.rn 1 [(13, .agg (Thing.cells x5))] [] (.bind (og := F18 n x5) ⟨some 14, POp.call false [[]] 18 [Operand.tmp 13], none, [(13, Hint.imm)]⟩ (fun r6 => [(14, qb r6)]) (fun r6 => []) (by kernel_rfl) (fun r6 hr => pOp_eff (by kernel_rfl) (by kernel_rfl) (eff_call (ARGS := [.agg (Thing.cells x5)]) (by kernel_rfl) (args_clean (by kernel_rfl) args_nil) (F18_ok n x5 r6 hr) (by kernel_rfl))) (fun r6 => ?_))
      refine SimI.rn 2 [(16, qb (!(r6))), (15, qb (!(r6)))] [] (.split 16 (!(r6)) (by kernel_rfl) ?_ ?_)
      · exact SimI.rd 17 [(33, qb true), (32, .tup []), (31, .tup []), (30, .tup []), (29, .tup []), (28, .tup []), (27, .tup []), (26, .tup []), (25, .tup []), (24, .tup []), (23, .tup []), (22, .tup []), (21, .tup []), (20, .tup []), (19, .tup []), (18, .tup []), (17, .tup [])] [] (.thenN (.condT (by kernel_rfl) (.sr 1 [(2, qb false)] [] (.ret (.blockR (.thenR (.loopR (.blockR (.thenR .fn)))))))))
      · refine SimI.rn 3 [(19, qb (decide ((0 : Int) < i3))), (18, qb (decide ((0 : Int) < i3))), (17, qj i3)] [] (.split 19 (decide ((0 : Int) < i3)) (by kernel_rfl) ?_ ?_)
        · refine SimI.rn 2 [(21, qj i3), (20, .one (vw Thing.cod a0))] [] (.bind (og := ix a0 i3) ⟨some 22, POp.iaddrS 11 (Operand.tmp 20) (Operand.tmp 21), some (19, true), [(20, Hint.imm), (21, Hint.imm)]⟩ (fun x7 => [(22, .one (.eptr (Thing.cod.enc x7) 0))]) (fun x7 => []) (by kernel_rfl) (fun x7 hr => pOp_eff (by kernel_rfl) (by kernel_rfl) (eff_idx (c := Thing.cod) (l := a0) (k := .i64) (n := i3) (by kernel_rfl) (by kernel_rfl) (by kernel_rfl) hr)) (fun x7 => ?_))
          refine SimI.rn 5 [(27, qj (IntKind.wrap .i64 (i3 - 1))), (26, qj i3), (25, .one (vw Thing.cod a0)), (24, qj x7.ID), (23, .one (.eptr (Thing.cod.enc x7) 0))] [] (.bind (og := ix a0 (IntKind.wrap .i64 (i3 - 1))) ⟨some 28, POp.iaddrS 11 (Operand.tmp 25) (Operand.tmp 27), some (19, true), [(25, Hint.imm), (27, Hint.imm)]⟩ (fun x8 => [(28, .one (.eptr (Thing.cod.enc x8) 0))]) (fun x8 => []) (by kernel_rfl) (fun x8 hr => pOp_eff (by kernel_rfl) (by kernel_rfl) (eff_idx (c := Thing.cod) (l := a0) (k := .i64) (n := IntKind.wrap .i64 (i3 - 1)) (by kernel_rfl) (by kernel_rfl) (by kernel_rfl) hr)) (fun x8 => ?_))
          refine SimI.rd 5 [(33, qb (decide (x7.ID ≤ x8.ID))), (32, qb (decide (x7.ID ≤ x8.ID))), (31, qb (decide (x7.ID ≤ x8.ID))), (30, qj x8.ID), (29, .one (.eptr (Thing.cod.enc x8) 0))] [] (.thenN (.cond (decide (x7.ID ≤ x8.ID)) (by kernel_rfl) ?_ ?_))
          · exact Sim.sr 1 [(2, qb false)] [] (.ret (.blockR (.thenR (.loopR (.blockR (.thenR .fn))))))
          · refine Sim.skip (.blockN (.thenN (.region0 (.rd 3 [(3, qj (IntKind.wrap .i64 (i3 + 1))), (9, qj (IntKind.wrap .i64 (i3 + 1))), (8, qj i3)] [] (.loopN (.pr [0, 3] [] [] [(0, .one (vw Thing.cod a0)), (3, qj (IntKind.wrap .i64 (i3 + 1)))] [] ?_))))))
            exact ih_l4 (IntKind.wrap .i64 (i3 + 1))
        · refine SimI.rd 14 [(33, qb false), (32, qb false), (31, .tup []), (30, .tup []), (29, .tup []), (28, .tup []), (27, .tup []), (26, .tup []), (25, .tup []), (24, .tup []), (23, .tup []), (22, .tup []), (21, .tup []), (20, .tup [])] [] (.thenN (.condF (by kernel_rfl) (.skip (.blockN (.thenN (.region0 (.rd 3 [(3, qj (IntKind.wrap .i64 (i3 + 1))), (9, qj (IntKind.wrap .i64 (i3 + 1))), (8, qj i3)] [] (.loopN (.pr [0, 3] [] [] [(0, .one (vw Thing.cod a0)), (3, qj (IntKind.wrap .i64 (i3 + 1)))] [] ?_)))))))))
          exact ih_l4 (IntKind.wrap .i64 (i3 + 1))
    · exact Sim.exit (.thenX (.loopX (.blockX (.thenN (.sr 1 [(2, qb true)] [] (.ret .fn))))))

def F45 (n : Nat) (a0 : (List Thing)) : Option Bool :=
  F45_l4 n a0 (n + 8) 0
theorem F45_ok (n : Nat) (a0 : (List Thing)) : ∀ r, F45 n a0 = some r → D 45 [.one (vw Thing.cod a0)] [] = some (F45_e r) := by
  refine fn_to (D := D) (n := n + 8) (nt := 34) (rs := pc45_r) (c := pc45_c26) (L := [(0, .one (vw Thing.cod a0))]) (M := []) (k := 0) rfl rfl rfl rfl rfl rfl rfl ?_
  unfold F45
  refine Sim.sr 1 [(2, qb false)] [] (.seq (.sr 1 [(3, qj 0)] [] (.block (.loop (.pr [0, 3] [] [] [(0, .one (vw Thing.cod a0)), (3, qj 0)] [] ?_)))))
  exact F45_l4_ok n a0 (n + 8) 0


-- 60: vedette/vedetteref1.Put
def F60_e : ByteArray → PV × List Ob := fun r => (.one (ls r), [])
def F60_l7 (n : Nat) : Nat → Int → ByteArray → Option ByteArray
  | 0, _, _ => none
  | m + 1, i5, s6 =>
    if decide (i5 < 128) then
      if s6.size + (mkStr [IntKind.wrap .u8 i5]).size ≤ 9223372036854775807 then
        some (s6 ++ (mkStr [IntKind.wrap .u8 i5]))
      else none
    else
      if s6.size + (mkStr [bitsI .or .u8 (IntKind.wrap .u8 (bitsI .and .u64 i5 127)) 128]).size ≤ 9223372036854775807 then
        (F60_l7 n m) (shrI .u64 i5 7) (s6 ++ (mkStr [bitsI .or .u8 (IntKind.wrap .u8 (bitsI .and .u64 i5 127)) 128]))
      else none
theorem F60_l7_ok (n : Nat) : ∀ (m : Nat) (i5 : Int) (s6 : ByteArray), SimL Try.prog D (n + 8) m pc60_c14 [(0, .one (li .u64 i5)), (3, qs s6)] [] (F60_l7 n m i5 s6) (QB 0 (QF false pc60_r 0 F60_e)) := by
  intro m_l7
  induction m_l7 with
  | zero => intro i5 s6; exact SimL.zero'  rfl
  | succ m_l7 ih_l7 =>
    intro i5 s6
    refine SimL.succ ?_
    unfold F60_l7
    refine Sim.block (.seq (.seq (.rg [(0, .one (li .u64 i5)), (3, qs s6)] [] (.rd 2 [(5, qb (decide (i5 < 128))), (4, .one (li .u64 i5))] [] (.thenN (.cond (decide (i5 < 128)) (by kernel_rfl) ?_ ?_))))))
    · exact Sim.st 4 [(9, .one (vw (codI .u8) [IntKind.wrap .u8 i5])), (8, .one (li .u8 (IntKind.wrap .u8 i5))), (7, .one (li .u64 i5)), (6, qs s6)] [] (.step ⟨some 10, POp.b2s (Operand.tmp 9), none, []⟩ [(10, qs (mkStr [IntKind.wrap .u8 i5]))] [] (by kernel_rfl) (pOp_eff (by kernel_rfl) (by kernel_rfl) (eff_b2s (l := [IntKind.wrap .u8 i5]) (by kernel_rfl))) (.guard (c := s6.size + (mkStr [IntKind.wrap .u8 i5]).size ≤ 9223372036854775807) ⟨some 11, POp.prim (Prim.bin BinOp.add 9 false false) [Operand.tmp 6, Operand.tmp 10], none, []⟩ [(11, qs (s6 ++ (mkStr [IntKind.wrap .u8 i5])))] [] (by kernel_rfl) (fun hc => pOp_eff (by kernel_rfl) (by kernel_rfl) (eff_prim (by kernel_rfl) (pr_addS _ _ _ s6 (mkStr [IntKind.wrap .u8 i5]) hc))) (.rd 1 [(2, qs (s6 ++ (mkStr [IntKind.wrap .u8 i5])))] [] (.thenN (.ret (.thenR (.blockR (.loopR (.blockR .fn)))))))))
    · refine Sim.skip (.thenN (.st 6 [(17, .one (vw (codI .u8) [bitsI .or .u8 (IntKind.wrap .u8 (bitsI .and .u64 i5 127)) 128])), (16, .one (li .u8 (bitsI .or .u8 (IntKind.wrap .u8 (bitsI .and .u64 i5 127)) 128))), (15, .one (li .u8 (IntKind.wrap .u8 (bitsI .and .u64 i5 127)))), (14, .one (li .u64 (bitsI .and .u64 i5 127))), (13, .one (li .u64 i5)), (12, qs s6)] [] (.step ⟨some 18, POp.b2s (Operand.tmp 17), none, []⟩ [(18, qs (mkStr [bitsI .or .u8 (IntKind.wrap .u8 (bitsI .and .u64 i5 127)) 128]))] [] (by kernel_rfl) (pOp_eff (by kernel_rfl) (by kernel_rfl) (eff_b2s (l := [bitsI .or .u8 (IntKind.wrap .u8 (bitsI .and .u64 i5 127)) 128]) (by kernel_rfl))) (.guard (c := s6.size + (mkStr [bitsI .or .u8 (IntKind.wrap .u8 (bitsI .and .u64 i5 127)) 128]).size ≤ 9223372036854775807) ⟨some 19, POp.prim (Prim.bin BinOp.add 9 false false) [Operand.tmp 12, Operand.tmp 18], none, []⟩ [(19, qs (s6 ++ (mkStr [bitsI .or .u8 (IntKind.wrap .u8 (bitsI .and .u64 i5 127)) 128])))] [] (by kernel_rfl) (fun hc => pOp_eff (by kernel_rfl) (by kernel_rfl) (eff_prim (by kernel_rfl) (pr_addS _ _ _ s6 (mkStr [bitsI .or .u8 (IntKind.wrap .u8 (bitsI .and .u64 i5 127)) 128]) hc))) (.rd 1 [(3, qs (s6 ++ (mkStr [bitsI .or .u8 (IntKind.wrap .u8 (bitsI .and .u64 i5 127)) 128])))] [] (.thenN (.region0 (.rd 3 [(0, .one (li .u64 (shrI .u64 i5 7))), (21, .one (li .u64 (shrI .u64 i5 7))), (20, .one (li .u64 i5))] [] (.blockN (.loopN (.pr [0, 3] [] [] [(0, .one (li .u64 (shrI .u64 i5 7))), (3, qs (s6 ++ (mkStr [bitsI .or .u8 (IntKind.wrap .u8 (bitsI .and .u64 i5 127)) 128])))] [] ?_)))))))))))
      exact ih_l7 (shrI .u64 i5 7) (s6 ++ (mkStr [bitsI .or .u8 (IntKind.wrap .u8 (bitsI .and .u64 i5 127)) 128]))

def F60 (n : Nat) (a0 : Int) : Option ByteArray :=
  F60_l7 n (n + 8) a0 ByteArray.empty
theorem F60_ok (n : Nat) (a0 : Int) : ∀ r, F60 n a0 = some r → D 60 [.one (li .u64 a0)] [] = some (F60_e r) := by
  refine fn_to (D := D) (n := n + 8) (nt := 22) (rs := pc60_r) (c := pc60_c18) (L := [(0, .one (li .u64 a0))]) (M := []) (k := 0) rfl rfl rfl rfl rfl rfl rfl ?_
  unfold F60
  refine Sim.sr 1 [(2, qs be)] [] (.sr 1 [(3, qs be)] [] (.block (.loop (.pr [0, 3] [] [] [(0, .one (li .u64 a0)), (3, qs be)] [] ?_))))
  exact F60_l7_ok n (n + 8) a0 be


-- 61: vedette/vedetteref1.Text
def F61_e : ByteArray → PV × List Ob := fun r => (.one (ls r), [])
def F61 (n : Nat) (a0 : ByteArray) : Option ByteArray :=
  (F60 n (IntKind.wrap .u64 (a0.size : Int))).bind fun (r1 : ByteArray) =>
  if r1.size + a0.size ≤ 9223372036854775807 then
    some (r1 ++ a0)
  else none
theorem F61_ok (n : Nat) (a0 : ByteArray) : ∀ r, F61 n a0 = some r → D 61 [.one (ls a0)] [] = some (F61_e r) := by
  refine fn_to (D := D) (n := n + 8) (nt := 9) (rs := pc61_r) (c := pc61_c5) (L := [(0, qs a0)]) (M := []) (k := 0) rfl rfl rfl rfl rfl rfl rfl ?_
  unfold F61
  refine Sim.sr 1 [(2, qs be)] [] (.st 3 [(5, .one (li .u64 (IntKind.wrap .u64 (a0.size : Int)))), (4, qj (a0.size : Int)), (3, qs a0)] [] (.cl 6 true [[]] 60 [Operand.tmp 5] none (fun r1 => qs r1) [.one (li .u64 (IntKind.wrap .u64 (a0.size : Int)))] (F60_ok n (IntKind.wrap .u64 (a0.size : Int))) (fun r1 => ?_)))
  exact SimI.rn 1 [(7, qs a0)] [] (.guard (c := r1.size + a0.size ≤ 9223372036854775807) ⟨some 8, POp.prim (Prim.bin BinOp.add 9 false false) [Operand.tmp 6, Operand.tmp 7], none, []⟩ [(8, qs (r1 ++ a0))] [] (by kernel_rfl) (fun hc => pOp_eff (by kernel_rfl) (by kernel_rfl) (eff_prim (by kernel_rfl) (pr_addS _ _ _ r1 a0 hc))) (.rd 1 [(2, qs (r1 ++ a0))] [] (.thenN (.ret .fn))))


-- 98: vedette/vedetteref1.Zig
def F98_e : Int → PV × List Ob := fun r => (.one (li .u64 r), [])
def F98 (n : Nat) (a0 : Int) : Option Int :=
  some (bitsI .xor .u64 (shlI .u64 (IntKind.wrap .u64 a0) 1) (IntKind.wrap .u64 (shrI .i64 a0 63)))
theorem F98_ok (n : Nat) (a0 : Int) : ∀ r, F98 n a0 = some r → D 98 [.one (li .i64 a0)] [] = some (F98_e r) := by
  refine fn_to (D := D) (n := n + 8) (nt := 10) (rs := pc98_r) (c := pc98_c5) (L := [(0, qj a0)]) (M := []) (k := 0) rfl rfl rfl rfl rfl rfl rfl ?_
  unfold F98
  exact Sim.sr 1 [(2, .one (li .u64 0))] [] (.sr 8 [(2, .one (li .u64 (bitsI .xor .u64 (shlI .u64 (IntKind.wrap .u64 a0) 1) (IntKind.wrap .u64 (shrI .i64 a0 63))))), (9, .one (li .u64 (bitsI .xor .u64 (shlI .u64 (IntKind.wrap .u64 a0) 1) (IntKind.wrap .u64 (shrI .i64 a0 63))))), (8, .one (li .u64 (IntKind.wrap .u64 (shrI .i64 a0 63)))), (7, qj (shrI .i64 a0 63)), (6, qj a0), (5, .one (li .u64 (shlI .u64 (IntKind.wrap .u64 a0) 1))), (4, .one (li .u64 (IntKind.wrap .u64 a0))), (3, qj a0)] [] (.ret .fn))


-- 62: vedette/vedetteref1.Int
def F62_e : ByteArray → PV × List Ob := fun r => (.one (ls r), [])
def F62 (n : Nat) (a0 : Int) : Option ByteArray :=
  (F98 n a0).bind fun (r1 : Int) =>
  (F60 n r1).bind fun (r2 : ByteArray) =>
  some r2
theorem F62_ok (n : Nat) (a0 : Int) : ∀ r, F62 n a0 = some r → D 62 [.one (li .i64 a0)] [] = some (F62_e r) := by
  refine fn_to (D := D) (n := n + 8) (nt := 6) (rs := pc62_r) (c := pc62_c5) (L := [(0, qj a0)]) (M := []) (k := 0) rfl rfl rfl rfl rfl rfl rfl ?_
  unfold F62
  refine Sim.sr 1 [(2, qs be)] [] (.st 1 [(3, qj a0)] [] (.cl 4 true [[]] 98 [Operand.tmp 3] none (fun r1 => .one (li .u64 r1)) [qj a0] (F98_ok n a0) (fun r1 => ?_)))
  refine SimI.cl 5 true [[]] 60 [Operand.tmp 4] none (fun r2 => qs r2) [.one (li .u64 r1)] (F60_ok n r1) (fun r2 => ?_)
  exact SimI.rd 1 [(2, qs r2)] [] (.thenN (.ret .fn))


-- 19: vedette/vedetteref6.Bytes
def F19_e : ByteArray → PV × List Ob := fun r => (.one (ls r), [])
def F19_u22 (n : Nat) (s21 : ByteArray) : Option ByteArray :=
    some s21
theorem F19_u22_ok (n : Nat) (a0 : Delta) (s21 : ByteArray) : SimL Try.prog D (n + 8) (n + 4) pc19_c28 [(1, qp 1 0), (3, qs s21), (4, qj 4)] [(1, some (.cells (Delta.cells a0)))] (F19_u22 n s21) (QB 0 (QT Try.prog D (n + 8) pc19_c34 (QF false pc19_r 0 F19_e))) := by
    unfold F19_u22
    exact SimL.succ (.seq (.seq (.rg [(1, qp 1 0), (3, qs s21), (4, qj 4)] [(1, some (.cells (Delta.cells a0)))] (.rd 2 [(32, qb false), (31, qj 4)] [] (.thenN (.condF (by kernel_rfl) (.exit (.thenX (.loopX (.blockX (.thenN (.sr 2 [(2, qs s21), (65, qs s21)] [] (.ret .fn)))))))))))))

def F19_u18 (n : Nat) (a0 : Delta) (s17 : ByteArray) : Option ByteArray :=
    if (bitsI .and .u8 (shrI .u8 a0.Mask 4) 1) != 0 then
      (F61 n a0.F.a3.Text).bind fun (r19 : ByteArray) =>
      if s17.size + r19.size ≤ 9223372036854775807 then
        if a0.F.a3.Text.toList == ByteArray.empty.toList then
          (F62 n a0.F.a3.N).bind fun (r20 : ByteArray) =>
          if (s17 ++ r19).size + r20.size ≤ 9223372036854775807 then
            F19_u22 n ((s17 ++ r19) ++ r20)
          else none
        else
          F19_u22 n (s17 ++ r19)
      else none
    else
      F19_u22 n s17
theorem F19_u18_ok (n : Nat) (a0 : Delta) (s17 : ByteArray) : SimL Try.prog D (n + 8) (n + 5) pc19_c28 [(1, qp 1 0), (3, qs s17), (4, qj 3)] [(1, some (.cells (Delta.cells a0)))] (F19_u18 n a0 s17) (QB 0 (QT Try.prog D (n + 8) pc19_c34 (QF false pc19_r 0 F19_e))) := by
    unfold F19_u18
    refine SimL.succ (.seq (.seq (.rg [(1, qp 1 0), (3, qs s17), (4, qj 3)] [(1, some (.cells (Delta.cells a0)))] (.rd 2 [(32, qb true), (31, qj 3)] [] (.thenN (.condT (by kernel_rfl) (.skip (.thenN (.seq (.block (.sr 8 [(42, qb ((bitsI .and .u8 (shrI .u8 a0.Mask 4) 1) != 0)), (41, .one (li .u8 (bitsI .and .u8 (shrI .u8 a0.Mask 4) 1))), (40, .one (li .u8 (shrI .u8 a0.Mask 4))), (39, .one (li .u64 4)), (38, qj 4), (37, qj 3), (36, .one (li .u8 a0.Mask)), (35, qp 1 1)] [] (.cond ((bitsI .and .u8 (shrI .u8 a0.Mask 4) 1) != 0) (by kernel_rfl) ?_ ?_))))))))))))
    · refine Sim.st 6 [(48, qs a0.F.a3.Text), (47, qp 1 11), (46, qp 1 10), (45, qp 1 4), (44, qj 3), (43, qs s17)] [] (.cl 49 true [[]] 61 [Operand.tmp 48] none (fun r19 => qs r19) [qs a0.F.a3.Text] (F61_ok n a0.F.a3.Text) (fun r19 => ?_))
      refine SimI.guard (c := s17.size + r19.size ≤ 9223372036854775807) ⟨some 50, POp.prim (Prim.bin BinOp.add 9 false false) [Operand.tmp 43, Operand.tmp 49], none, []⟩ [(50, qs (s17 ++ r19))] [] (by kernel_rfl) (fun hc => pOp_eff (by kernel_rfl) (by kernel_rfl) (eff_prim (by kernel_rfl) (pr_addS _ _ _ s17 r19 hc))) (.rd 1 [(3, qs (s17 ++ r19))] [] (.thenN (.sr 6 [(56, qb (a0.F.a3.Text.toList == be.toList)), (55, qs a0.F.a3.Text), (54, qp 1 11), (53, qp 1 10), (52, qp 1 4), (51, qj 3)] [] (.cond (a0.F.a3.Text.toList == be.toList) (by kernel_rfl) ?_ ?_))))
      · refine Sim.region0 (.rn 6 [(62, qj a0.F.a3.N), (61, qp 1 10), (60, qp 1 10), (59, qp 1 4), (58, qj 3), (57, qs (s17 ++ r19))] [] (.cl 63 true [[]] 62 [Operand.tmp 62] none (fun r20 => qs r20) [qj a0.F.a3.N] (F62_ok n a0.F.a3.N) (fun r20 => ?_)))
        refine SimI.guard (c := (s17 ++ r19).size + r20.size ≤ 9223372036854775807) ⟨some 64, POp.prim (Prim.bin BinOp.add 9 false false) [Operand.tmp 57, Operand.tmp 63], none, []⟩ [(64, qs ((s17 ++ r19) ++ r20))] [] (by kernel_rfl) (fun hc => pOp_eff (by kernel_rfl) (by kernel_rfl) (eff_prim (by kernel_rfl) (pr_addS _ _ _ (s17 ++ r19) r20 hc))) (.rd 1 [(3, qs ((s17 ++ r19) ++ r20))] [] (.blockN (.thenN (.region0 (.rd 3 [(4, qj 4), (34, qj 4), (33, qj 3)] [] (.loopN (.pr [1, 3, 4] [1] [] [(1, qp 1 0), (3, qs ((s17 ++ r19) ++ r20)), (4, qj 4)] [(1, some (.cells (Delta.cells a0)))] ?_)))))))
        exact F19_u22_ok n a0 ((s17 ++ r19) ++ r20)
      · refine Sim.skip (.blockN (.thenN (.region0 (.rd 3 [(4, qj 4), (34, qj 4), (33, qj 3)] [] (.loopN (.pr [1, 3, 4] [1] [] [(1, qp 1 0), (3, qs (s17 ++ r19)), (4, qj 4)] [(1, some (.cells (Delta.cells a0)))] ?_))))))
        exact F19_u22_ok n a0 (s17 ++ r19)
    · refine Sim.skip (.blockN (.thenN (.region0 (.rd 3 [(4, qj 4), (34, qj 4), (33, qj 3)] [] (.loopN (.pr [1, 3, 4] [1] [] [(1, qp 1 0), (3, qs s17), (4, qj 4)] [(1, some (.cells (Delta.cells a0)))] ?_))))))
      exact F19_u22_ok n a0 s17

def F19_u14 (n : Nat) (a0 : Delta) (s13 : ByteArray) : Option ByteArray :=
    if (bitsI .and .u8 (shrI .u8 a0.Mask 3) 1) != 0 then
      (F61 n a0.F.a2.Text).bind fun (r15 : ByteArray) =>
      if s13.size + r15.size ≤ 9223372036854775807 then
        if a0.F.a2.Text.toList == ByteArray.empty.toList then
          (F62 n a0.F.a2.N).bind fun (r16 : ByteArray) =>
          if (s13 ++ r15).size + r16.size ≤ 9223372036854775807 then
            F19_u18 n a0 ((s13 ++ r15) ++ r16)
          else none
        else
          F19_u18 n a0 (s13 ++ r15)
      else none
    else
      F19_u18 n a0 s13
theorem F19_u14_ok (n : Nat) (a0 : Delta) (s13 : ByteArray) : SimL Try.prog D (n + 8) (n + 6) pc19_c28 [(1, qp 1 0), (3, qs s13), (4, qj 2)] [(1, some (.cells (Delta.cells a0)))] (F19_u14 n a0 s13) (QB 0 (QT Try.prog D (n + 8) pc19_c34 (QF false pc19_r 0 F19_e))) := by
    unfold F19_u14
    refine SimL.succ (.seq (.seq (.rg [(1, qp 1 0), (3, qs s13), (4, qj 2)] [(1, some (.cells (Delta.cells a0)))] (.rd 2 [(32, qb true), (31, qj 2)] [] (.thenN (.condT (by kernel_rfl) (.skip (.thenN (.seq (.block (.sr 8 [(42, qb ((bitsI .and .u8 (shrI .u8 a0.Mask 3) 1) != 0)), (41, .one (li .u8 (bitsI .and .u8 (shrI .u8 a0.Mask 3) 1))), (40, .one (li .u8 (shrI .u8 a0.Mask 3))), (39, .one (li .u64 3)), (38, qj 3), (37, qj 2), (36, .one (li .u8 a0.Mask)), (35, qp 1 1)] [] (.cond ((bitsI .and .u8 (shrI .u8 a0.Mask 3) 1) != 0) (by kernel_rfl) ?_ ?_))))))))))))
    · refine Sim.st 6 [(48, qs a0.F.a2.Text), (47, qp 1 9), (46, qp 1 8), (45, qp 1 4), (44, qj 2), (43, qs s13)] [] (.cl 49 true [[]] 61 [Operand.tmp 48] none (fun r15 => qs r15) [qs a0.F.a2.Text] (F61_ok n a0.F.a2.Text) (fun r15 => ?_))
      refine SimI.guard (c := s13.size + r15.size ≤ 9223372036854775807) ⟨some 50, POp.prim (Prim.bin BinOp.add 9 false false) [Operand.tmp 43, Operand.tmp 49], none, []⟩ [(50, qs (s13 ++ r15))] [] (by kernel_rfl) (fun hc => pOp_eff (by kernel_rfl) (by kernel_rfl) (eff_prim (by kernel_rfl) (pr_addS _ _ _ s13 r15 hc))) (.rd 1 [(3, qs (s13 ++ r15))] [] (.thenN (.sr 6 [(56, qb (a0.F.a2.Text.toList == be.toList)), (55, qs a0.F.a2.Text), (54, qp 1 9), (53, qp 1 8), (52, qp 1 4), (51, qj 2)] [] (.cond (a0.F.a2.Text.toList == be.toList) (by kernel_rfl) ?_ ?_))))
      · refine Sim.region0 (.rn 6 [(62, qj a0.F.a2.N), (61, qp 1 8), (60, qp 1 8), (59, qp 1 4), (58, qj 2), (57, qs (s13 ++ r15))] [] (.cl 63 true [[]] 62 [Operand.tmp 62] none (fun r16 => qs r16) [qj a0.F.a2.N] (F62_ok n a0.F.a2.N) (fun r16 => ?_)))
        refine SimI.guard (c := (s13 ++ r15).size + r16.size ≤ 9223372036854775807) ⟨some 64, POp.prim (Prim.bin BinOp.add 9 false false) [Operand.tmp 57, Operand.tmp 63], none, []⟩ [(64, qs ((s13 ++ r15) ++ r16))] [] (by kernel_rfl) (fun hc => pOp_eff (by kernel_rfl) (by kernel_rfl) (eff_prim (by kernel_rfl) (pr_addS _ _ _ (s13 ++ r15) r16 hc))) (.rd 1 [(3, qs ((s13 ++ r15) ++ r16))] [] (.blockN (.thenN (.region0 (.rd 3 [(4, qj 3), (34, qj 3), (33, qj 2)] [] (.loopN (.pr [1, 3, 4] [1] [] [(1, qp 1 0), (3, qs ((s13 ++ r15) ++ r16)), (4, qj 3)] [(1, some (.cells (Delta.cells a0)))] ?_)))))))
        exact F19_u18_ok n a0 ((s13 ++ r15) ++ r16)
      · refine Sim.skip (.blockN (.thenN (.region0 (.rd 3 [(4, qj 3), (34, qj 3), (33, qj 2)] [] (.loopN (.pr [1, 3, 4] [1] [] [(1, qp 1 0), (3, qs (s13 ++ r15)), (4, qj 3)] [(1, some (.cells (Delta.cells a0)))] ?_))))))
        exact F19_u18_ok n a0 (s13 ++ r15)
    · refine Sim.skip (.blockN (.thenN (.region0 (.rd 3 [(4, qj 3), (34, qj 3), (33, qj 2)] [] (.loopN (.pr [1, 3, 4] [1] [] [(1, qp 1 0), (3, qs s13), (4, qj 3)] [(1, some (.cells (Delta.cells a0)))] ?_))))))
      exact F19_u18_ok n a0 s13

def F19_u10 (n : Nat) (a0 : Delta) (s9 : ByteArray) : Option ByteArray :=
    if (bitsI .and .u8 (shrI .u8 a0.Mask 2) 1) != 0 then
      (F61 n a0.F.a1.Text).bind fun (r11 : ByteArray) =>
      if s9.size + r11.size ≤ 9223372036854775807 then
        if a0.F.a1.Text.toList == ByteArray.empty.toList then
          (F62 n a0.F.a1.N).bind fun (r12 : ByteArray) =>
          if (s9 ++ r11).size + r12.size ≤ 9223372036854775807 then
            F19_u14 n a0 ((s9 ++ r11) ++ r12)
          else none
        else
          F19_u14 n a0 (s9 ++ r11)
      else none
    else
      F19_u14 n a0 s9
theorem F19_u10_ok (n : Nat) (a0 : Delta) (s9 : ByteArray) : SimL Try.prog D (n + 8) (n + 7) pc19_c28 [(1, qp 1 0), (3, qs s9), (4, qj 1)] [(1, some (.cells (Delta.cells a0)))] (F19_u10 n a0 s9) (QB 0 (QT Try.prog D (n + 8) pc19_c34 (QF false pc19_r 0 F19_e))) := by
    unfold F19_u10
    refine SimL.succ (.seq (.seq (.rg [(1, qp 1 0), (3, qs s9), (4, qj 1)] [(1, some (.cells (Delta.cells a0)))] (.rd 2 [(32, qb true), (31, qj 1)] [] (.thenN (.condT (by kernel_rfl) (.skip (.thenN (.seq (.block (.sr 8 [(42, qb ((bitsI .and .u8 (shrI .u8 a0.Mask 2) 1) != 0)), (41, .one (li .u8 (bitsI .and .u8 (shrI .u8 a0.Mask 2) 1))), (40, .one (li .u8 (shrI .u8 a0.Mask 2))), (39, .one (li .u64 2)), (38, qj 2), (37, qj 1), (36, .one (li .u8 a0.Mask)), (35, qp 1 1)] [] (.cond ((bitsI .and .u8 (shrI .u8 a0.Mask 2) 1) != 0) (by kernel_rfl) ?_ ?_))))))))))))
    · refine Sim.st 6 [(48, qs a0.F.a1.Text), (47, qp 1 7), (46, qp 1 6), (45, qp 1 4), (44, qj 1), (43, qs s9)] [] (.cl 49 true [[]] 61 [Operand.tmp 48] none (fun r11 => qs r11) [qs a0.F.a1.Text] (F61_ok n a0.F.a1.Text) (fun r11 => ?_))
      refine SimI.guard (c := s9.size + r11.size ≤ 9223372036854775807) ⟨some 50, POp.prim (Prim.bin BinOp.add 9 false false) [Operand.tmp 43, Operand.tmp 49], none, []⟩ [(50, qs (s9 ++ r11))] [] (by kernel_rfl) (fun hc => pOp_eff (by kernel_rfl) (by kernel_rfl) (eff_prim (by kernel_rfl) (pr_addS _ _ _ s9 r11 hc))) (.rd 1 [(3, qs (s9 ++ r11))] [] (.thenN (.sr 6 [(56, qb (a0.F.a1.Text.toList == be.toList)), (55, qs a0.F.a1.Text), (54, qp 1 7), (53, qp 1 6), (52, qp 1 4), (51, qj 1)] [] (.cond (a0.F.a1.Text.toList == be.toList) (by kernel_rfl) ?_ ?_))))
      · refine Sim.region0 (.rn 6 [(62, qj a0.F.a1.N), (61, qp 1 6), (60, qp 1 6), (59, qp 1 4), (58, qj 1), (57, qs (s9 ++ r11))] [] (.cl 63 true [[]] 62 [Operand.tmp 62] none (fun r12 => qs r12) [qj a0.F.a1.N] (F62_ok n a0.F.a1.N) (fun r12 => ?_)))
        refine SimI.guard (c := (s9 ++ r11).size + r12.size ≤ 9223372036854775807) ⟨some 64, POp.prim (Prim.bin BinOp.add 9 false false) [Operand.tmp 57, Operand.tmp 63], none, []⟩ [(64, qs ((s9 ++ r11) ++ r12))] [] (by kernel_rfl) (fun hc => pOp_eff (by kernel_rfl) (by kernel_rfl) (eff_prim (by kernel_rfl) (pr_addS _ _ _ (s9 ++ r11) r12 hc))) (.rd 1 [(3, qs ((s9 ++ r11) ++ r12))] [] (.blockN (.thenN (.region0 (.rd 3 [(4, qj 2), (34, qj 2), (33, qj 1)] [] (.loopN (.pr [1, 3, 4] [1] [] [(1, qp 1 0), (3, qs ((s9 ++ r11) ++ r12)), (4, qj 2)] [(1, some (.cells (Delta.cells a0)))] ?_)))))))
        exact F19_u14_ok n a0 ((s9 ++ r11) ++ r12)
      · refine Sim.skip (.blockN (.thenN (.region0 (.rd 3 [(4, qj 2), (34, qj 2), (33, qj 1)] [] (.loopN (.pr [1, 3, 4] [1] [] [(1, qp 1 0), (3, qs (s9 ++ r11)), (4, qj 2)] [(1, some (.cells (Delta.cells a0)))] ?_))))))
        exact F19_u14_ok n a0 (s9 ++ r11)
    · refine Sim.skip (.blockN (.thenN (.region0 (.rd 3 [(4, qj 2), (34, qj 2), (33, qj 1)] [] (.loopN (.pr [1, 3, 4] [1] [] [(1, qp 1 0), (3, qs s9), (4, qj 2)] [(1, some (.cells (Delta.cells a0)))] ?_))))))
      exact F19_u14_ok n a0 s9

def F19_j6 (n : Nat) (a0 : Delta) (s5 : ByteArray) : Option ByteArray :=
    if (bitsI .and .u8 (shrI .u8 a0.Mask 1) 1) != 0 then
      (F61 n a0.F.a0.Text).bind fun (r7 : ByteArray) =>
      if s5.size + r7.size ≤ 9223372036854775807 then
        if a0.F.a0.Text.toList == ByteArray.empty.toList then
          (F62 n a0.F.a0.N).bind fun (r8 : ByteArray) =>
          if (s5 ++ r7).size + r8.size ≤ 9223372036854775807 then
            F19_u10 n a0 ((s5 ++ r7) ++ r8)
          else none
        else
          F19_u10 n a0 (s5 ++ r7)
      else none
    else
      F19_u10 n a0 s5
theorem F19_j6_ok (n : Nat) (a0 : Delta) (s5 : ByteArray) : Sim Try.prog D (n + 8) pc19_c35 [(1, qp 1 0), (3, qs s5)] [(1, some (.cells (Delta.cells a0)))] (F19_j6 n a0 s5) (QF false pc19_r 0 F19_e) := by
    unfold F19_j6
    refine Sim.seq (.seq (.rg [(1, qp 1 0), (3, qs s5)] [(1, some (.cells (Delta.cells a0)))] (.rd 1 [(4, qj 0)] [] (.thenN (.block (.loop (.succ (.seq (.seq (.rg [(1, qp 1 0), (3, qs s5), (4, qj 0)] [(1, some (.cells (Delta.cells a0)))] (.rd 2 [(32, qb true), (31, qj 0)] [] (.thenN (.condT (by kernel_rfl) (.skip (.thenN (.seq (.block (.sr 8 [(42, qb ((bitsI .and .u8 (shrI .u8 a0.Mask 1) 1) != 0)), (41, .one (li .u8 (bitsI .and .u8 (shrI .u8 a0.Mask 1) 1))), (40, .one (li .u8 (shrI .u8 a0.Mask 1))), (39, .one (li .u64 1)), (38, qj 1), (37, qj 0), (36, .one (li .u8 a0.Mask)), (35, qp 1 1)] [] (.cond ((bitsI .and .u8 (shrI .u8 a0.Mask 1) 1) != 0) (by kernel_rfl) ?_ ?_)))))))))))))))))))
    · refine Sim.st 6 [(48, qs a0.F.a0.Text), (47, qp 1 5), (46, qp 1 4), (45, qp 1 4), (44, qj 0), (43, qs s5)] [] (.cl 49 true [[]] 61 [Operand.tmp 48] none (fun r7 => qs r7) [qs a0.F.a0.Text] (F61_ok n a0.F.a0.Text) (fun r7 => ?_))
      refine SimI.guard (c := s5.size + r7.size ≤ 9223372036854775807) ⟨some 50, POp.prim (Prim.bin BinOp.add 9 false false) [Operand.tmp 43, Operand.tmp 49], none, []⟩ [(50, qs (s5 ++ r7))] [] (by kernel_rfl) (fun hc => pOp_eff (by kernel_rfl) (by kernel_rfl) (eff_prim (by kernel_rfl) (pr_addS _ _ _ s5 r7 hc))) (.rd 1 [(3, qs (s5 ++ r7))] [] (.thenN (.sr 6 [(56, qb (a0.F.a0.Text.toList == be.toList)), (55, qs a0.F.a0.Text), (54, qp 1 5), (53, qp 1 4), (52, qp 1 4), (51, qj 0)] [] (.cond (a0.F.a0.Text.toList == be.toList) (by kernel_rfl) ?_ ?_))))
      · refine Sim.region0 (.rn 6 [(62, qj a0.F.a0.N), (61, qp 1 4), (60, qp 1 4), (59, qp 1 4), (58, qj 0), (57, qs (s5 ++ r7))] [] (.cl 63 true [[]] 62 [Operand.tmp 62] none (fun r8 => qs r8) [qj a0.F.a0.N] (F62_ok n a0.F.a0.N) (fun r8 => ?_)))
        refine SimI.guard (c := (s5 ++ r7).size + r8.size ≤ 9223372036854775807) ⟨some 64, POp.prim (Prim.bin BinOp.add 9 false false) [Operand.tmp 57, Operand.tmp 63], none, []⟩ [(64, qs ((s5 ++ r7) ++ r8))] [] (by kernel_rfl) (fun hc => pOp_eff (by kernel_rfl) (by kernel_rfl) (eff_prim (by kernel_rfl) (pr_addS _ _ _ (s5 ++ r7) r8 hc))) (.rd 1 [(3, qs ((s5 ++ r7) ++ r8))] [] (.blockN (.thenN (.region0 (.rd 3 [(4, qj 1), (34, qj 1), (33, qj 0)] [] (.loopN (.pr [1, 3, 4] [1] [] [(1, qp 1 0), (3, qs ((s5 ++ r7) ++ r8)), (4, qj 1)] [(1, some (.cells (Delta.cells a0)))] ?_)))))))
        exact F19_u10_ok n a0 ((s5 ++ r7) ++ r8)
      · refine Sim.skip (.blockN (.thenN (.region0 (.rd 3 [(4, qj 1), (34, qj 1), (33, qj 0)] [] (.loopN (.pr [1, 3, 4] [1] [] [(1, qp 1 0), (3, qs (s5 ++ r7)), (4, qj 1)] [(1, some (.cells (Delta.cells a0)))] ?_))))))
        exact F19_u10_ok n a0 (s5 ++ r7)
    · refine Sim.skip (.blockN (.thenN (.region0 (.rd 3 [(4, qj 1), (34, qj 1), (33, qj 0)] [] (.loopN (.pr [1, 3, 4] [1] [] [(1, qp 1 0), (3, qs s5), (4, qj 1)] [(1, some (.cells (Delta.cells a0)))] ?_))))))
      exact F19_u10_ok n a0 s5

def F19 (n : Nat) (a0 : Delta) : Option ByteArray :=
  (F60 n (IntKind.wrap .u64 a0.ID)).bind fun (r1 : ByteArray) =>
  (F60 n (IntKind.wrap .u64 a0.Mask)).bind fun (r2 : ByteArray) =>
  if r1.size + r2.size ≤ 9223372036854775807 then
    if (bitsI .and .u8 a0.Mask 1) != 0 then
      (F60 n (IntKind.wrap .u64 a0.At.X)).bind fun (r3 : ByteArray) =>
      if (r1 ++ r2).size + r3.size ≤ 9223372036854775807 then
        (F60 n (IntKind.wrap .u64 a0.At.Y)).bind fun (r4 : ByteArray) =>
        if ((r1 ++ r2) ++ r3).size + r4.size ≤ 9223372036854775807 then
          F19_j6 n a0 (((r1 ++ r2) ++ r3) ++ r4)
        else none
      else none
    else
      F19_j6 n a0 (r1 ++ r2)
  else none
theorem F19_ok (n : Nat) (a0 : Delta) : ∀ r, F19 n a0 = some r → D 19 [.agg (Delta.cells a0)] [] = some (F19_e r) := by
  refine fn_to (D := D) (n := n + 8) (nt := 66) (rs := pc19_r) (c := pc19_c38) (L := [(0, .agg (Delta.cells a0))]) (M := []) (k := 0) rfl rfl rfl rfl rfl rfl rfl ?_
  unfold F19
  refine Sim.sr 2 [(2, qs be), (1, qp 1 0)] [(1, some (.cells (Delta.cells a0)))] (.st 3 [(7, .one (li .u64 (IntKind.wrap .u64 a0.ID))), (6, qj a0.ID), (5, qp 1 0)] [] (.bind (og := F60 n (IntKind.wrap .u64 a0.ID)) ⟨some 8, POp.call false [[]] 60 [Operand.tmp 7], none, [(7, Hint.imm)]⟩ (fun r1 => [(8, qs r1)]) (fun r1 => []) (by kernel_rfl) (fun r1 hr => pOp_eff (by kernel_rfl) (by kernel_rfl) (eff_call (ARGS := [.one (li .u64 (IntKind.wrap .u64 a0.ID))]) (by kernel_rfl) (args_clean (by kernel_rfl) args_nil) (F60_ok n (IntKind.wrap .u64 a0.ID) r1 hr) (by kernel_rfl))) (fun r1 => ?_)))
  refine SimI.rn 3 [(11, .one (li .u64 (IntKind.wrap .u64 a0.Mask))), (10, .one (li .u8 a0.Mask)), (9, qp 1 1)] [] (.bind (og := F60 n (IntKind.wrap .u64 a0.Mask)) ⟨some 12, POp.call false [[]] 60 [Operand.tmp 11], none, [(11, Hint.imm)]⟩ (fun r2 => [(12, qs r2)]) (fun r2 => []) (by kernel_rfl) (fun r2 hr => pOp_eff (by kernel_rfl) (by kernel_rfl) (eff_call (ARGS := [.one (li .u64 (IntKind.wrap .u64 a0.Mask))]) (by kernel_rfl) (args_clean (by kernel_rfl) args_nil) (F60_ok n (IntKind.wrap .u64 a0.Mask) r2 hr) (by kernel_rfl))) (fun r2 => ?_))
  refine SimI.guard (c := r1.size + r2.size ≤ 9223372036854775807) ⟨some 13, POp.prim (Prim.bin BinOp.add 9 false false) [Operand.tmp 8, Operand.tmp 12], none, [(8, Hint.imm), (12, Hint.imm)]⟩ [(13, qs (r1 ++ r2))] [] (by kernel_rfl) (fun hc => pOp_eff (by kernel_rfl) (by kernel_rfl) (eff_prim (by kernel_rfl) (pr_addS _ _ _ r1 r2 hc))) (.rd 1 [(3, qs (r1 ++ r2))] [] (.thenN (.seq (.sr 4 [(17, qb ((bitsI .and .u8 a0.Mask 1) != 0)), (16, .one (li .u8 (bitsI .and .u8 a0.Mask 1))), (15, .one (li .u8 a0.Mask)), (14, qp 1 1)] [] (.cond ((bitsI .and .u8 a0.Mask 1) != 0) (by kernel_rfl) ?_ ?_)))))
  · refine Sim.region0 (.rn 5 [(22, .one (li .u64 (IntKind.wrap .u64 a0.At.X))), (21, qj a0.At.X), (20, qp 1 2), (19, qp 1 2), (18, qs (r1 ++ r2))] [] (.bind (og := F60 n (IntKind.wrap .u64 a0.At.X)) ⟨some 23, POp.call false [[]] 60 [Operand.tmp 22], none, [(22, Hint.imm)]⟩ (fun r3 => [(23, qs r3)]) (fun r3 => []) (by kernel_rfl) (fun r3 hr => pOp_eff (by kernel_rfl) (by kernel_rfl) (eff_call (ARGS := [.one (li .u64 (IntKind.wrap .u64 a0.At.X))]) (by kernel_rfl) (args_clean (by kernel_rfl) args_nil) (F60_ok n (IntKind.wrap .u64 a0.At.X) r3 hr) (by kernel_rfl))) (fun r3 => ?_)))
    refine SimI.guard (c := (r1 ++ r2).size + r3.size ≤ 9223372036854775807) ⟨some 24, POp.prim (Prim.bin BinOp.add 9 false false) [Operand.tmp 18, Operand.tmp 23], none, [(18, Hint.imm), (23, Hint.imm)]⟩ [(24, qs ((r1 ++ r2) ++ r3))] [] (by kernel_rfl) (fun hc => pOp_eff (by kernel_rfl) (by kernel_rfl) (eff_prim (by kernel_rfl) (pr_addS _ _ _ (r1 ++ r2) r3 hc))) (.rn 4 [(28, .one (li .u64 (IntKind.wrap .u64 a0.At.Y))), (27, qj a0.At.Y), (26, qp 1 3), (25, qp 1 2)] [] (.bind (og := F60 n (IntKind.wrap .u64 a0.At.Y)) ⟨some 29, POp.call false [[]] 60 [Operand.tmp 28], none, [(28, Hint.imm)]⟩ (fun r4 => [(29, qs r4)]) (fun r4 => []) (by kernel_rfl) (fun r4 hr => pOp_eff (by kernel_rfl) (by kernel_rfl) (eff_call (ARGS := [.one (li .u64 (IntKind.wrap .u64 a0.At.Y))]) (by kernel_rfl) (args_clean (by kernel_rfl) args_nil) (F60_ok n (IntKind.wrap .u64 a0.At.Y) r4 hr) (by kernel_rfl))) (fun r4 => ?_)))
    refine SimI.guard (c := ((r1 ++ r2) ++ r3).size + r4.size ≤ 9223372036854775807) ⟨some 30, POp.prim (Prim.bin BinOp.add 9 false false) [Operand.tmp 24, Operand.tmp 29], none, [(24, Hint.imm), (29, Hint.imm)]⟩ [(30, qs (((r1 ++ r2) ++ r3) ++ r4))] [] (by kernel_rfl) (fun hc => pOp_eff (by kernel_rfl) (by kernel_rfl) (eff_prim (by kernel_rfl) (pr_addS _ _ _ ((r1 ++ r2) ++ r3) r4 hc))) (.rd 1 [(3, qs (((r1 ++ r2) ++ r3) ++ r4))] [] (.thenN (.pr [1, 3] [1] [] [(1, qp 1 0), (3, qs (((r1 ++ r2) ++ r3) ++ r4))] [(1, some (.cells (Delta.cells a0)))] ?_)))
    exact F19_j6_ok n a0 (((r1 ++ r2) ++ r3) ++ r4)
  · refine Sim.skip (.thenN (.pr [1, 3] [1] [] [(1, qp 1 0), (3, qs (r1 ++ r2))] [(1, some (.cells (Delta.cells a0)))] ?_))
    exact F19_j6_ok n a0 (r1 ++ r2)


-- 20: vedette/vedetteref6.Full
def F20_e : Delta → PV × List Ob := fun r => (.agg (Delta.cells r), [])
def F20 (n : Nat) (a0 : Thing) : Option Delta :=
  some (Delta.mk a0.ID 31 a0.At a0.F)
theorem F20_ok (n : Nat) (a0 : Thing) : ∀ r, F20 n a0 = some r → D 20 [.agg (Thing.cells a0)] [] = some (F20_e r) := by
  refine fn_to (D := D) (n := n + 8) (nt := 10) (rs := pc20_r) (c := pc20_c5) (L := [(0, .agg (Thing.cells a0))]) (M := []) (k := 0) rfl rfl rfl rfl rfl rfl rfl ?_
  unfold F20
  exact Sim.sr 2 [(2, qp 2 0), (1, qp 1 0)] [(2, some (.cells [lj 0, li .u8 0, lj 0, lj 0, lj 0, ls be, lj 0, ls be, lj 0, ls be, lj 0, ls be])), (1, some (.cells (Thing.cells a0)))] (.sr 8 [(9, .agg [lj a0.ID, li .u8 31, lj a0.At.X, lj a0.At.Y, lj a0.F.a0.N, ls a0.F.a0.Text, lj a0.F.a1.N, ls a0.F.a1.Text, lj a0.F.a2.N, ls a0.F.a2.Text, lj a0.F.a3.N, ls a0.F.a3.Text]), (8, .agg (A4_Field.cells a0.F)), (7, qp 1 3), (6, .agg [lj a0.At.X, lj a0.At.Y]), (5, qp 1 1), (4, qj a0.ID), (3, qp 1 0)] [(2, some (.cells [lj a0.ID, li .u8 31, lj a0.At.X, lj a0.At.Y, lj a0.F.a0.N, ls a0.F.a0.Text, lj a0.F.a1.N, ls a0.F.a1.Text, lj a0.F.a2.N, ls a0.F.a2.Text, lj a0.F.a3.N, ls a0.F.a3.Text]))] (.ret .fn))


-- 94: vedette/vedetteref6.IsDelta
def F94_e : Bool → PV × List Ob := fun r => (.one (lb r), [])
def F94_u10 (n : Nat) : Option Bool :=
    some true
theorem F94_u10_ok (n : Nat) (a0 : Delta) : SimL Try.prog D (n + 8) (n + 4) pc94_c32 [(1, qp 1 0), (3, qj 4)] [(1, some (.cells (Delta.cells a0)))] (F94_u10 n) (QB 0 (QT Try.prog D (n + 8) pc94_c38 (QF false pc94_r 0 F94_e))) := by
    unfold F94_u10
    exact SimL.succ (.seq (.seq (.rg [(1, qp 1 0), (3, qj 4)] [(1, some (.cells (Delta.cells a0)))] (.rd 2 [(45, qb false), (44, qj 4)] [] (.thenN (.condF (by kernel_rfl) (.exit (.thenX (.loopX (.blockX (.thenN (.sr 1 [(2, qb true)] [] (.ret .fn)))))))))))))

def F94_u8 (n : Nat) (a0 : Delta) : Option Bool :=
    (F59 n a0.F.a3).bind fun (r9 : Bool) =>
    if !(r9) then
      some false
    else
      if (bitsI .and .u8 (shrI .u8 a0.Mask 4) 1) == 0 then
        if !(Field.eqb a0.F.a3 (Field.mk 0 ByteArray.empty)) then
          some false
        else
          F94_u10 n
      else
        F94_u10 n
theorem F94_u8_ok (n : Nat) (a0 : Delta) : SimL Try.prog D (n + 8) (n + 5) pc94_c32 [(1, qp 1 0), (3, qj 3)] [(1, some (.cells (Delta.cells a0)))] (F94_u8 n a0) (QB 0 (QT Try.prog D (n + 8) pc94_c38 (QF false pc94_r 0 F94_e))) := by
    unfold F94_u8
    refine SimL.succ (.seq (.seq (.rg [(1, qp 1 0), (3, qj 3)] [(1, some (.cells (Delta.cells a0)))] (.rd 2 [(45, qb true), (44, qj 3)] [] (.thenN (.condT (by kernel_rfl) (.skip (.thenN (.seq (.block (.st 4 [(51, .agg [lj a0.F.a3.N, ls a0.F.a3.Text]), (50, qp 1 10), (49, qp 1 4), (48, qj 3)] [] (.cl 52 true [[]] 59 [Operand.tmp 51] none (fun r9 => qb r9) [.agg [lj a0.F.a3.N, ls a0.F.a3.Text]] (F59_ok n a0.F.a3) (fun r9 => ?_)))))))))))))
    refine SimI.rn 2 [(54, qb (!(r9))), (53, qb (!(r9)))] [] (.split 54 (!(r9)) (by kernel_rfl) ?_ ?_)
    · exact SimI.rd 17 [(71, qb true), (70, .tup []), (69, .tup []), (68, .tup []), (67, .tup []), (66, .tup []), (65, .tup []), (64, .tup []), (63, .tup []), (62, .tup []), (61, .tup []), (60, .tup []), (59, .tup []), (58, .tup []), (57, .tup []), (56, .tup []), (55, .tup [])] [] (.thenN (.condT (by kernel_rfl) (.sr 1 [(2, qb false)] [] (.ret (.blockR (.thenR (.loopR (.blockR (.thenR .fn)))))))))
    · refine SimI.rn 9 [(63, qb ((bitsI .and .u8 (shrI .u8 a0.Mask 4) 1) == 0)), (62, qb ((bitsI .and .u8 (shrI .u8 a0.Mask 4) 1) == 0)), (61, .one (li .u8 (bitsI .and .u8 (shrI .u8 a0.Mask 4) 1))), (60, .one (li .u8 (shrI .u8 a0.Mask 4))), (59, .one (li .u64 4)), (58, qj 4), (57, qj 3), (56, .one (li .u8 a0.Mask)), (55, qp 1 1)] [] (.split 63 ((bitsI .and .u8 (shrI .u8 a0.Mask 4) 1) == 0) (by kernel_rfl) ?_ ?_)
      · refine SimI.rn 5 [(68, .agg [lj 0, ls be]), (67, .agg [lj a0.F.a3.N, ls a0.F.a3.Text]), (66, qp 1 10), (65, qp 1 4), (64, qj 3)] [] (.step ⟨some 69, POp.prim (Prim.bin BinOp.neq 25 false false) [Operand.tmp 67, Operand.tmp 68], some (63, true), []⟩ [(69, qb (!(Field.eqb a0.F.a3 (Field.mk 0 be))))] [] (by kernel_rfl) (pOp_eff (by kernel_rfl) (by kernel_rfl) (eff_prim (by kernel_rfl) (Field_eqn a0.F.a3 (Field.mk 0 be) _ _))) (.rd 2 [(71, qb (!(Field.eqb a0.F.a3 (Field.mk 0 be)))), (70, qb (!(Field.eqb a0.F.a3 (Field.mk 0 be))))] [] (.thenN (.cond (!(Field.eqb a0.F.a3 (Field.mk 0 be))) (by kernel_rfl) ?_ ?_))))
        · exact Sim.sr 1 [(2, qb false)] [] (.ret (.blockR (.thenR (.loopR (.blockR (.thenR .fn))))))
        · refine Sim.skip (.blockN (.thenN (.region0 (.rd 3 [(3, qj 4), (47, qj 4), (46, qj 3)] [] (.loopN (.pr [1, 3] [1] [] [(1, qp 1 0), (3, qj 4)] [(1, some (.cells (Delta.cells a0)))] ?_))))))
          exact F94_u10_ok n a0
      · refine SimI.rd 8 [(71, qb false), (70, qb false), (69, .tup []), (68, .tup []), (67, .tup []), (66, .tup []), (65, .tup []), (64, .tup [])] [] (.thenN (.condF (by kernel_rfl) (.skip (.blockN (.thenN (.region0 (.rd 3 [(3, qj 4), (47, qj 4), (46, qj 3)] [] (.loopN (.pr [1, 3] [1] [] [(1, qp 1 0), (3, qj 4)] [(1, some (.cells (Delta.cells a0)))] ?_)))))))))
        exact F94_u10_ok n a0

def F94_u6 (n : Nat) (a0 : Delta) : Option Bool :=
    (F59 n a0.F.a2).bind fun (r7 : Bool) =>
    if !(r7) then
      some false
    else
      if (bitsI .and .u8 (shrI .u8 a0.Mask 3) 1) == 0 then
        if !(Field.eqb a0.F.a2 (Field.mk 0 ByteArray.empty)) then
          some false
        else
          F94_u8 n a0
      else
        F94_u8 n a0
theorem F94_u6_ok (n : Nat) (a0 : Delta) : SimL Try.prog D (n + 8) (n + 6) pc94_c32 [(1, qp 1 0), (3, qj 2)] [(1, some (.cells (Delta.cells a0)))] (F94_u6 n a0) (QB 0 (QT Try.prog D (n + 8) pc94_c38 (QF false pc94_r 0 F94_e))) := by
    unfold F94_u6
    refine SimL.succ (.seq (.seq (.rg [(1, qp 1 0), (3, qj 2)] [(1, some (.cells (Delta.cells a0)))] (.rd 2 [(45, qb true), (44, qj 2)] [] (.thenN (.condT (by kernel_rfl) (.skip (.thenN (.seq (.block (.st 4 [(51, .agg [lj a0.F.a2.N, ls a0.F.a2.Text]), (50, qp 1 8), (49, qp 1 4), (48, qj 2)] [] (.cl 52 true [[]] 59 [Operand.tmp 51] none (fun r7 => qb r7) [.agg [lj a0.F.a2.N, ls a0.F.a2.Text]] (F59_ok n a0.F.a2) (fun r7 => ?_)))))))))))))
    refine SimI.rn 2 [(54, qb (!(r7))), (53, qb (!(r7)))] [] (.split 54 (!(r7)) (by kernel_rfl) ?_ ?_)
    · exact SimI.rd 17 [(71, qb true), (70, .tup []), (69, .tup []), (68, .tup []), (67, .tup []), (66, .tup []), (65, .tup []), (64, .tup []), (63, .tup []), (62, .tup []), (61, .tup []), (60, .tup []), (59, .tup []), (58, .tup []), (57, .tup []), (56, .tup []), (55, .tup [])] [] (.thenN (.condT (by kernel_rfl) (.sr 1 [(2, qb false)] [] (.ret (.blockR (.thenR (.loopR (.blockR (.thenR .fn)))))))))
    · refine SimI.rn 9 [(63, qb ((bitsI .and .u8 (shrI .u8 a0.Mask 3) 1) == 0)), (62, qb ((bitsI .and .u8 (shrI .u8 a0.Mask 3) 1) == 0)), (61, .one (li .u8 (bitsI .and .u8 (shrI .u8 a0.Mask 3) 1))), (60, .one (li .u8 (shrI .u8 a0.Mask 3))), (59, .one (li .u64 3)), (58, qj 3), (57, qj 2), (56, .one (li .u8 a0.Mask)), (55, qp 1 1)] [] (.split 63 ((bitsI .and .u8 (shrI .u8 a0.Mask 3) 1) == 0) (by kernel_rfl) ?_ ?_)
      · refine SimI.rn 5 [(68, .agg [lj 0, ls be]), (67, .agg [lj a0.F.a2.N, ls a0.F.a2.Text]), (66, qp 1 8), (65, qp 1 4), (64, qj 2)] [] (.step ⟨some 69, POp.prim (Prim.bin BinOp.neq 25 false false) [Operand.tmp 67, Operand.tmp 68], some (63, true), []⟩ [(69, qb (!(Field.eqb a0.F.a2 (Field.mk 0 be))))] [] (by kernel_rfl) (pOp_eff (by kernel_rfl) (by kernel_rfl) (eff_prim (by kernel_rfl) (Field_eqn a0.F.a2 (Field.mk 0 be) _ _))) (.rd 2 [(71, qb (!(Field.eqb a0.F.a2 (Field.mk 0 be)))), (70, qb (!(Field.eqb a0.F.a2 (Field.mk 0 be))))] [] (.thenN (.cond (!(Field.eqb a0.F.a2 (Field.mk 0 be))) (by kernel_rfl) ?_ ?_))))
        · exact Sim.sr 1 [(2, qb false)] [] (.ret (.blockR (.thenR (.loopR (.blockR (.thenR .fn))))))
        · refine Sim.skip (.blockN (.thenN (.region0 (.rd 3 [(3, qj 3), (47, qj 3), (46, qj 2)] [] (.loopN (.pr [1, 3] [1] [] [(1, qp 1 0), (3, qj 3)] [(1, some (.cells (Delta.cells a0)))] ?_))))))
          exact F94_u8_ok n a0
      · refine SimI.rd 8 [(71, qb false), (70, qb false), (69, .tup []), (68, .tup []), (67, .tup []), (66, .tup []), (65, .tup []), (64, .tup [])] [] (.thenN (.condF (by kernel_rfl) (.skip (.blockN (.thenN (.region0 (.rd 3 [(3, qj 3), (47, qj 3), (46, qj 2)] [] (.loopN (.pr [1, 3] [1] [] [(1, qp 1 0), (3, qj 3)] [(1, some (.cells (Delta.cells a0)))] ?_)))))))))
        exact F94_u8_ok n a0

def F94_u4 (n : Nat) (a0 : Delta) : Option Bool :=
    (F59 n a0.F.a1).bind fun (r5 : Bool) =>
    if !(r5) then
      some false
    else
      if (bitsI .and .u8 (shrI .u8 a0.Mask 2) 1) == 0 then
        if !(Field.eqb a0.F.a1 (Field.mk 0 ByteArray.empty)) then
          some false
        else
          F94_u6 n a0
      else
        F94_u6 n a0
theorem F94_u4_ok (n : Nat) (a0 : Delta) : SimL Try.prog D (n + 8) (n + 7) pc94_c32 [(1, qp 1 0), (3, qj 1)] [(1, some (.cells (Delta.cells a0)))] (F94_u4 n a0) (QB 0 (QT Try.prog D (n + 8) pc94_c38 (QF false pc94_r 0 F94_e))) := by
    unfold F94_u4
    refine SimL.succ (.seq (.seq (.rg [(1, qp 1 0), (3, qj 1)] [(1, some (.cells (Delta.cells a0)))] (.rd 2 [(45, qb true), (44, qj 1)] [] (.thenN (.condT (by kernel_rfl) (.skip (.thenN (.seq (.block (.st 4 [(51, .agg [lj a0.F.a1.N, ls a0.F.a1.Text]), (50, qp 1 6), (49, qp 1 4), (48, qj 1)] [] (.cl 52 true [[]] 59 [Operand.tmp 51] none (fun r5 => qb r5) [.agg [lj a0.F.a1.N, ls a0.F.a1.Text]] (F59_ok n a0.F.a1) (fun r5 => ?_)))))))))))))
    refine SimI.rn 2 [(54, qb (!(r5))), (53, qb (!(r5)))] [] (.split 54 (!(r5)) (by kernel_rfl) ?_ ?_)
    · exact SimI.rd 17 [(71, qb true), (70, .tup []), (69, .tup []), (68, .tup []), (67, .tup []), (66, .tup []), (65, .tup []), (64, .tup []), (63, .tup []), (62, .tup []), (61, .tup []), (60, .tup []), (59, .tup []), (58, .tup []), (57, .tup []), (56, .tup []), (55, .tup [])] [] (.thenN (.condT (by kernel_rfl) (.sr 1 [(2, qb false)] [] (.ret (.blockR (.thenR (.loopR (.blockR (.thenR .fn)))))))))
    · refine SimI.rn 9 [(63, qb ((bitsI .and .u8 (shrI .u8 a0.Mask 2) 1) == 0)), (62, qb ((bitsI .and .u8 (shrI .u8 a0.Mask 2) 1) == 0)), (61, .one (li .u8 (bitsI .and .u8 (shrI .u8 a0.Mask 2) 1))), (60, .one (li .u8 (shrI .u8 a0.Mask 2))), (59, .one (li .u64 2)), (58, qj 2), (57, qj 1), (56, .one (li .u8 a0.Mask)), (55, qp 1 1)] [] (.split 63 ((bitsI .and .u8 (shrI .u8 a0.Mask 2) 1) == 0) (by kernel_rfl) ?_ ?_)
      · refine SimI.rn 5 [(68, .agg [lj 0, ls be]), (67, .agg [lj a0.F.a1.N, ls a0.F.a1.Text]), (66, qp 1 6), (65, qp 1 4), (64, qj 1)] [] (.step ⟨some 69, POp.prim (Prim.bin BinOp.neq 25 false false) [Operand.tmp 67, Operand.tmp 68], some (63, true), []⟩ [(69, qb (!(Field.eqb a0.F.a1 (Field.mk 0 be))))] [] (by kernel_rfl) (pOp_eff (by kernel_rfl) (by kernel_rfl) (eff_prim (by kernel_rfl) (Field_eqn a0.F.a1 (Field.mk 0 be) _ _))) (.rd 2 [(71, qb (!(Field.eqb a0.F.a1 (Field.mk 0 be)))), (70, qb (!(Field.eqb a0.F.a1 (Field.mk 0 be))))] [] (.thenN (.cond (!(Field.eqb a0.F.a1 (Field.mk 0 be))) (by kernel_rfl) ?_ ?_))))
        · exact Sim.sr 1 [(2, qb false)] [] (.ret (.blockR (.thenR (.loopR (.blockR (.thenR .fn))))))
        · refine Sim.skip (.blockN (.thenN (.region0 (.rd 3 [(3, qj 2), (47, qj 2), (46, qj 1)] [] (.loopN (.pr [1, 3] [1] [] [(1, qp 1 0), (3, qj 2)] [(1, some (.cells (Delta.cells a0)))] ?_))))))
          exact F94_u6_ok n a0
      · refine SimI.rd 8 [(71, qb false), (70, qb false), (69, .tup []), (68, .tup []), (67, .tup []), (66, .tup []), (65, .tup []), (64, .tup [])] [] (.thenN (.condF (by kernel_rfl) (.skip (.blockN (.thenN (.region0 (.rd 3 [(3, qj 2), (47, qj 2), (46, qj 1)] [] (.loopN (.pr [1, 3] [1] [] [(1, qp 1 0), (3, qj 2)] [(1, some (.cells (Delta.cells a0)))] ?_)))))))))
        exact F94_u6_ok n a0

def F94_j2 (n : Nat) (a0 : Delta) : Option Bool :=
    (F59 n a0.F.a0).bind fun (r3 : Bool) =>
    if !(r3) then
      some false
    else
      if (bitsI .and .u8 (shrI .u8 a0.Mask 1) 1) == 0 then
        if !(Field.eqb a0.F.a0 (Field.mk 0 ByteArray.empty)) then
          some false
        else
          F94_u4 n a0
      else
        F94_u4 n a0
theorem F94_j2_ok (n : Nat) (a0 : Delta) : Sim Try.prog D (n + 8) pc94_c39 [(1, qp 1 0)] [(1, some (.cells (Delta.cells a0)))] (F94_j2 n a0) (QF false pc94_r 0 F94_e) := by
    unfold F94_j2
    refine Sim.seq (.seq (.rg [(1, qp 1 0)] [(1, some (.cells (Delta.cells a0)))] (.rd 1 [(3, qj 0)] [] (.thenN (.block (.loop (.succ (.seq (.seq (.rg [(1, qp 1 0), (3, qj 0)] [(1, some (.cells (Delta.cells a0)))] (.rd 2 [(45, qb true), (44, qj 0)] [] (.thenN (.condT (by kernel_rfl) (.skip (.thenN (.seq (.block (.st 4 [(51, .agg [lj a0.F.a0.N, ls a0.F.a0.Text]), (50, qp 1 4), (49, qp 1 4), (48, qj 0)] [] (.cl 52 true [[]] 59 [Operand.tmp 51] none (fun r3 => qb r3) [.agg [lj a0.F.a0.N, ls a0.F.a0.Text]] (F59_ok n a0.F.a0) (fun r3 => ?_))))))))))))))))))))
    refine SimI.rn 2 [(54, qb (!(r3))), (53, qb (!(r3)))] [] (.split 54 (!(r3)) (by kernel_rfl) ?_ ?_)
    · exact SimI.rd 17 [(71, qb true), (70, .tup []), (69, .tup []), (68, .tup []), (67, .tup []), (66, .tup []), (65, .tup []), (64, .tup []), (63, .tup []), (62, .tup []), (61, .tup []), (60, .tup []), (59, .tup []), (58, .tup []), (57, .tup []), (56, .tup []), (55, .tup [])] [] (.thenN (.condT (by kernel_rfl) (.sr 1 [(2, qb false)] [] (.ret (.blockR (.thenR (.loopR (.blockR (.thenR .fn)))))))))
    · refine SimI.rn 9 [(63, qb ((bitsI .and .u8 (shrI .u8 a0.Mask 1) 1) == 0)), (62, qb ((bitsI .and .u8 (shrI .u8 a0.Mask 1) 1) == 0)), (61, .one (li .u8 (bitsI .and .u8 (shrI .u8 a0.Mask 1) 1))), (60, .one (li .u8 (shrI .u8 a0.Mask 1))), (59, .one (li .u64 1)), (58, qj 1), (57, qj 0), (56, .one (li .u8 a0.Mask)), (55, qp 1 1)] [] (.split 63 ((bitsI .and .u8 (shrI .u8 a0.Mask 1) 1) == 0) (by kernel_rfl) ?_ ?_)
      · refine SimI.rn 5 [(68, .agg [lj 0, ls be]), (67, .agg [lj a0.F.a0.N, ls a0.F.a0.Text]), (66, qp 1 4), (65, qp 1 4), (64, qj 0)] [] (.step ⟨some 69, POp.prim (Prim.bin BinOp.neq 25 false false) [Operand.tmp 67, Operand.tmp 68], some (63, true), []⟩ [(69, qb (!(Field.eqb a0.F.a0 (Field.mk 0 be))))] [] (by kernel_rfl) (pOp_eff (by kernel_rfl) (by kernel_rfl) (eff_prim (by kernel_rfl) (Field_eqn a0.F.a0 (Field.mk 0 be) _ _))) (.rd 2 [(71, qb (!(Field.eqb a0.F.a0 (Field.mk 0 be)))), (70, qb (!(Field.eqb a0.F.a0 (Field.mk 0 be))))] [] (.thenN (.cond (!(Field.eqb a0.F.a0 (Field.mk 0 be))) (by kernel_rfl) ?_ ?_))))
        · exact Sim.sr 1 [(2, qb false)] [] (.ret (.blockR (.thenR (.loopR (.blockR (.thenR .fn))))))
        · refine Sim.skip (.blockN (.thenN (.region0 (.rd 3 [(3, qj 1), (47, qj 1), (46, qj 0)] [] (.loopN (.pr [1, 3] [1] [] [(1, qp 1 0), (3, qj 1)] [(1, some (.cells (Delta.cells a0)))] ?_))))))
          exact F94_u4_ok n a0
      · refine SimI.rd 8 [(71, qb false), (70, qb false), (69, .tup []), (68, .tup []), (67, .tup []), (66, .tup []), (65, .tup []), (64, .tup [])] [] (.thenN (.condF (by kernel_rfl) (.skip (.blockN (.thenN (.region0 (.rd 3 [(3, qj 1), (47, qj 1), (46, qj 0)] [] (.loopN (.pr [1, 3] [1] [] [(1, qp 1 0), (3, qj 1)] [(1, some (.cells (Delta.cells a0)))] ?_)))))))))
        exact F94_u4_ok n a0

def F94 (n : Nat) (a0 : Delta) : Option Bool :=
  if decide (a0.ID < 0) then
    some false
  else
    if decide ((1000000 : Int) < a0.ID) then
      some false
    else
      if decide (a0.Mask < 1) then
        some false
      else
        if decide ((31 : Int) < a0.Mask) then
          some false
        else
          if (bitsI .and .u8 a0.Mask 1) != 0 then
            (F58 n a0.At).bind fun (r1 : Bool) =>
            if !(r1) then
              some false
            else
              if (bitsI .and .u8 a0.Mask 1) == 0 then
                if !(Point.eqb a0.At (Point.mk 0 0)) then
                  some false
                else
                  F94_j2 n a0
              else
                F94_j2 n a0
          else
            if (bitsI .and .u8 a0.Mask 1) == 0 then
              if !(Point.eqb a0.At (Point.mk 0 0)) then
                some false
              else
                F94_j2 n a0
            else
              F94_j2 n a0
theorem F94_ok (n : Nat) (a0 : Delta) : ∀ r, F94 n a0 = some r → D 94 [.agg (Delta.cells a0)] [] = some (F94_e r) := by
  refine fn_to (D := D) (n := n + 8) (nt := 72) (rs := pc94_r) (c := pc94_c42) (L := [(0, .agg (Delta.cells a0))]) (M := []) (k := 0) rfl rfl rfl rfl rfl rfl rfl ?_
  unfold F94
  refine Sim.sr 2 [(2, qb false), (1, qp 1 0)] [(1, some (.cells (Delta.cells a0)))] (.seq (.st 4 [(7, qb (decide (a0.ID < 0))), (6, qb (decide (a0.ID < 0))), (5, qj a0.ID), (4, qp 1 0)] [] (.split 7 (decide (a0.ID < 0)) (by kernel_rfl) ?_ ?_)))
  · exact SimI.rd 14 [(21, qb true), (20, .tup []), (19, .tup []), (18, .tup []), (17, qb true), (16, qb true), (15, .tup []), (14, .tup []), (13, .tup []), (12, qb true), (11, qb true), (10, .tup []), (9, .tup []), (8, .tup [])] [] (.thenN (.condT (by kernel_rfl) (.sr 1 [(2, qb false)] [] (.ret (.thenR .fn)))))
  · refine SimI.rn 5 [(12, qb (decide ((1000000 : Int) < a0.ID))), (11, qb (decide ((1000000 : Int) < a0.ID))), (10, qb (decide ((1000000 : Int) < a0.ID))), (9, qj a0.ID), (8, qp 1 0)] [] (.split 12 (decide ((1000000 : Int) < a0.ID)) (by kernel_rfl) ?_ ?_)
    · exact SimI.rd 9 [(21, qb true), (20, .tup []), (19, .tup []), (18, .tup []), (17, qb true), (16, qb true), (15, .tup []), (14, .tup []), (13, .tup [])] [] (.thenN (.condT (by kernel_rfl) (.sr 1 [(2, qb false)] [] (.ret (.thenR .fn)))))
    · refine SimI.rn 5 [(17, qb (decide (a0.Mask < 1))), (16, qb (decide (a0.Mask < 1))), (15, qb (decide (a0.Mask < 1))), (14, .one (li .u8 a0.Mask)), (13, qp 1 1)] [] (.split 17 (decide (a0.Mask < 1)) (by kernel_rfl) ?_ ?_)
      · exact SimI.rd 4 [(21, qb true), (20, .tup []), (19, .tup []), (18, .tup [])] [] (.thenN (.condT (by kernel_rfl) (.sr 1 [(2, qb false)] [] (.ret (.thenR .fn)))))
      · refine SimI.rd 4 [(21, qb (decide ((31 : Int) < a0.Mask))), (20, qb (decide ((31 : Int) < a0.Mask))), (19, .one (li .u8 a0.Mask)), (18, qp 1 1)] [] (.thenN (.cond (decide ((31 : Int) < a0.Mask)) (by kernel_rfl) ?_ ?_))
        · exact Sim.sr 1 [(2, qb false)] [] (.ret (.thenR .fn))
        · refine Sim.skip (.thenN (.seq (.st 5 [(26, qb ((bitsI .and .u8 a0.Mask 1) != 0)), (25, qb ((bitsI .and .u8 a0.Mask 1) != 0)), (24, .one (li .u8 (bitsI .and .u8 a0.Mask 1))), (23, .one (li .u8 a0.Mask)), (22, qp 1 1)] [] (.split 26 ((bitsI .and .u8 a0.Mask 1) != 0) (by kernel_rfl) ?_ ?_))))
          · refine SimI.rn 2 [(28, .agg [lj a0.At.X, lj a0.At.Y]), (27, qp 1 2)] [] (.cl 29 true [[]] 58 [Operand.tmp 28] (some (26, true)) (fun r1 => qb r1) [.agg [lj a0.At.X, lj a0.At.Y]] (F58_ok n a0.At) (fun r1 => ?_))
            refine SimI.rn 3 [(32, qb (!(r1))), (31, qb (!(r1))), (30, qb (!(r1)))] [] (.split 32 (!(r1)) (by kernel_rfl) ?_ ?_)
            · exact SimI.rd 11 [(43, qb true), (42, .tup []), (41, .tup []), (40, .tup []), (39, .tup []), (38, .tup []), (37, .tup []), (36, .tup []), (35, .tup []), (34, .tup []), (33, .tup [])] [] (.thenN (.condT (by kernel_rfl) (.sr 1 [(2, qb false)] [] (.ret (.thenR .fn)))))
            · refine SimI.rn 5 [(37, qb ((bitsI .and .u8 a0.Mask 1) == 0)), (36, qb ((bitsI .and .u8 a0.Mask 1) == 0)), (35, .one (li .u8 (bitsI .and .u8 a0.Mask 1))), (34, .one (li .u8 a0.Mask)), (33, qp 1 1)] [] (.split 37 ((bitsI .and .u8 a0.Mask 1) == 0) (by kernel_rfl) ?_ ?_)
              · refine SimI.rn 3 [(40, .agg [lj 0, lj 0]), (39, .agg [lj a0.At.X, lj a0.At.Y]), (38, qp 1 2)] [] (.step ⟨some 41, POp.prim (Prim.bin BinOp.neq 23 false false) [Operand.tmp 39, Operand.tmp 40], some (37, true), []⟩ [(41, qb (!(Point.eqb a0.At (Point.mk 0 0))))] [] (by kernel_rfl) (pOp_eff (by kernel_rfl) (by kernel_rfl) (eff_prim (by kernel_rfl) (Point_eqn a0.At (Point.mk 0 0) _ _))) (.rd 2 [(43, qb (!(Point.eqb a0.At (Point.mk 0 0)))), (42, qb (!(Point.eqb a0.At (Point.mk 0 0))))] [] (.thenN (.cond (!(Point.eqb a0.At (Point.mk 0 0))) (by kernel_rfl) ?_ ?_))))
                · exact Sim.sr 1 [(2, qb false)] [] (.ret (.thenR .fn))
                · refine Sim.skip (.thenN (.pr [1] [1] [] [(1, qp 1 0)] [(1, some (.cells (Delta.cells a0)))] ?_))
                  exact F94_j2_ok n a0
              · refine SimI.rd 6 [(43, qb false), (42, qb false), (41, .tup []), (40, .tup []), (39, .tup []), (38, .tup [])] [] (.thenN (.condF (by kernel_rfl) (.skip (.thenN (.pr [1] [1] [] [(1, qp 1 0)] [(1, some (.cells (Delta.cells a0)))] ?_)))))
                exact F94_j2_ok n a0
          · refine SimI.rn 11 [(37, qb ((bitsI .and .u8 a0.Mask 1) == 0)), (36, qb ((bitsI .and .u8 a0.Mask 1) == 0)), (35, .one (li .u8 (bitsI .and .u8 a0.Mask 1))), (34, .one (li .u8 a0.Mask)), (33, qp 1 1), (32, qb false), (31, qb false), (30, .tup []), (29, .tup []), (28, .tup []), (27, .tup [])] [] (.split 37 ((bitsI .and .u8 a0.Mask 1) == 0) (by kernel_rfl) ?_ ?_)
            · refine SimI.rn 3 [(40, .agg [lj 0, lj 0]), (39, .agg [lj a0.At.X, lj a0.At.Y]), (38, qp 1 2)] [] (.step ⟨some 41, POp.prim (Prim.bin BinOp.neq 23 false false) [Operand.tmp 39, Operand.tmp 40], some (37, true), []⟩ [(41, qb (!(Point.eqb a0.At (Point.mk 0 0))))] [] (by kernel_rfl) (pOp_eff (by kernel_rfl) (by kernel_rfl) (eff_prim (by kernel_rfl) (Point_eqn a0.At (Point.mk 0 0) _ _))) (.rd 2 [(43, qb (!(Point.eqb a0.At (Point.mk 0 0)))), (42, qb (!(Point.eqb a0.At (Point.mk 0 0))))] [] (.thenN (.cond (!(Point.eqb a0.At (Point.mk 0 0))) (by kernel_rfl) ?_ ?_))))
              · exact Sim.sr 1 [(2, qb false)] [] (.ret (.thenR .fn))
              · refine Sim.skip (.thenN (.pr [1] [1] [] [(1, qp 1 0)] [(1, some (.cells (Delta.cells a0)))] ?_))
                exact F94_j2_ok n a0
            · refine SimI.rd 6 [(43, qb false), (42, qb false), (41, .tup []), (40, .tup []), (39, .tup []), (38, .tup [])] [] (.thenN (.condF (by kernel_rfl) (.skip (.thenN (.pr [1] [1] [] [(1, qp 1 0)] [(1, some (.cells (Delta.cells a0)))] ?_)))))
              exact F94_j2_ok n a0


-- 53: vedette/vedetteref15.Is
def F53_e : Bool → PV × List Ob := fun r => (.one (lb r), [])
def F53 (n : Nat) (a0 : Event) : Option Bool :=
  if a0.Kind == 1 then
    (F18 n a0.Thing).bind fun (r1 : Bool) =>
    if r1 then
      if a0.ID == a0.Thing.ID then
        some (Delta.eqb a0.Delta (Delta.mk 0 0 (Point.mk 0 0) (A4.mk (Field.mk 0 ByteArray.empty) (Field.mk 0 ByteArray.empty) (Field.mk 0 ByteArray.empty) (Field.mk 0 ByteArray.empty))))
      else
        some false
    else
      some false
  else
    if a0.Kind == 2 then
      (F94 n a0.Delta).bind fun (r2 : Bool) =>
      if r2 then
        if a0.ID == a0.Delta.ID then
          some (Thing.eqb a0.Thing (Thing.mk 0 (Point.mk 0 0) (A4.mk (Field.mk 0 ByteArray.empty) (Field.mk 0 ByteArray.empty) (Field.mk 0 ByteArray.empty) (Field.mk 0 ByteArray.empty))))
        else
          some false
      else
        some false
    else
      if a0.Kind == 3 then
        if decide ((0 : Int) ≤ a0.ID) then
          if decide (a0.ID ≤ 1000000) then
            if Thing.eqb a0.Thing (Thing.mk 0 (Point.mk 0 0) (A4.mk (Field.mk 0 ByteArray.empty) (Field.mk 0 ByteArray.empty) (Field.mk 0 ByteArray.empty) (Field.mk 0 ByteArray.empty))) then
              some (Delta.eqb a0.Delta (Delta.mk 0 0 (Point.mk 0 0) (A4.mk (Field.mk 0 ByteArray.empty) (Field.mk 0 ByteArray.empty) (Field.mk 0 ByteArray.empty) (Field.mk 0 ByteArray.empty))))
            else
              some false
          else
            some false
        else
          some false
      else
        some false
theorem F53_ok (n : Nat) (a0 : Event) : ∀ r, F53 n a0 = some r → D 53 [.agg (Event.cells a0)] [] = some (F53_e r) := by
  refine fn_to (D := D) (n := n + 8) (nt := 65) (rs := pc53_r) (c := pc53_c28) (L := [(0, .agg (Event.cells a0))]) (M := []) (k := 0) rfl rfl rfl rfl rfl rfl rfl ?_
  unfold F53
  refine Sim.sr 2 [(2, qb false), (1, qp 1 0)] [(1, some (.cells (Event.cells a0)))] (.seq (.sr 2 [(4, qj a0.Kind), (3, qp 1 0)] [] (.block (.sr 2 [(5, qb (a0.Kind == 1)), (6, qb (a0.Kind == 1))] [] (.cond (a0.Kind == 1) (by kernel_rfl) ?_ ?_)))))
  · refine Sim.st 2 [(8, .agg (Thing.cells a0.Thing)), (7, qp 1 2)] [] (.cl 9 true [[]] 18 [Operand.tmp 8] none (fun r1 => qb r1) [.agg (Thing.cells a0.Thing)] (F18_ok n a0.Thing) (fun r1 => ?_))
    refine SimI.rn 1 [(10, qb r1)] [] (.split 10 r1 (by kernel_rfl) ?_ ?_)
    · refine SimI.rn 8 [(18, qb (a0.ID == a0.Thing.ID)), (17, qb (a0.ID == a0.Thing.ID)), (16, qb (a0.ID == a0.Thing.ID)), (15, qj a0.Thing.ID), (14, qp 1 2), (13, qp 1 2), (12, qj a0.ID), (11, qp 1 1)] [] (.split 18 (a0.ID == a0.Thing.ID) (by kernel_rfl) ?_ ?_)
      · exact SimI.rn 3 [(21, .agg [lj 0, li .u8 0, lj 0, lj 0, lj 0, ls be, lj 0, ls be, lj 0, ls be, lj 0, ls be]), (20, .agg (Delta.cells a0.Delta)), (19, qp 1 13)] [] (.step ⟨some 22, POp.prim (Prim.bin BinOp.eql 35 false false) [Operand.tmp 20, Operand.tmp 21], some (18, true), []⟩ [(22, qb (Delta.eqb a0.Delta (Delta.mk 0 0 (Point.mk 0 0) (A4.mk (Field.mk 0 be) (Field.mk 0 be) (Field.mk 0 be) (Field.mk 0 be)))))] [] (by kernel_rfl) (pOp_eff (by kernel_rfl) (by kernel_rfl) (eff_prim (by kernel_rfl) (Delta_eql a0.Delta (Delta.mk 0 0 (Point.mk 0 0) (A4.mk (Field.mk 0 be) (Field.mk 0 be) (Field.mk 0 be) (Field.mk 0 be))) _ _))) (.rd 2 [(2, qb (Delta.eqb a0.Delta (Delta.mk 0 0 (Point.mk 0 0) (A4.mk (Field.mk 0 be) (Field.mk 0 be) (Field.mk 0 be) (Field.mk 0 be))))), (23, qb (Delta.eqb a0.Delta (Delta.mk 0 0 (Point.mk 0 0) (A4.mk (Field.mk 0 be) (Field.mk 0 be) (Field.mk 0 be) (Field.mk 0 be)))))] [] (.thenN (.ret (.blockR (.thenR .fn))))))
      · exact SimI.rd 6 [(2, qb false), (23, qb false), (22, .tup []), (21, .tup []), (20, .tup []), (19, .tup [])] [] (.thenN (.ret (.blockR (.thenR .fn))))
    · exact SimI.rd 14 [(2, qb false), (23, qb false), (22, .tup []), (21, .tup []), (20, .tup []), (19, .tup []), (18, qb false), (17, qb false), (16, .tup []), (15, .tup []), (14, .tup []), (13, .tup []), (12, .tup []), (11, .tup [])] [] (.thenN (.ret (.blockR (.thenR .fn))))
  · refine Sim.sr 2 [(24, qb (a0.Kind == 2)), (25, qb (a0.Kind == 2))] [] (.cond (a0.Kind == 2) (by kernel_rfl) ?_ ?_)
    · refine Sim.st 2 [(27, .agg (Delta.cells a0.Delta)), (26, qp 1 13)] [] (.cl 28 true [[]] 94 [Operand.tmp 27] none (fun r2 => qb r2) [.agg (Delta.cells a0.Delta)] (F94_ok n a0.Delta) (fun r2 => ?_))
      refine SimI.rn 1 [(29, qb r2)] [] (.split 29 r2 (by kernel_rfl) ?_ ?_)
      · refine SimI.rn 8 [(37, qb (a0.ID == a0.Delta.ID)), (36, qb (a0.ID == a0.Delta.ID)), (35, qb (a0.ID == a0.Delta.ID)), (34, qj a0.Delta.ID), (33, qp 1 13), (32, qp 1 13), (31, qj a0.ID), (30, qp 1 1)] [] (.split 37 (a0.ID == a0.Delta.ID) (by kernel_rfl) ?_ ?_)
        · exact SimI.rn 3 [(40, .agg [lj 0, lj 0, lj 0, lj 0, ls be, lj 0, ls be, lj 0, ls be, lj 0, ls be]), (39, .agg (Thing.cells a0.Thing)), (38, qp 1 2)] [] (.step ⟨some 41, POp.prim (Prim.bin BinOp.eql 28 false false) [Operand.tmp 39, Operand.tmp 40], some (37, true), []⟩ [(41, qb (Thing.eqb a0.Thing (Thing.mk 0 (Point.mk 0 0) (A4.mk (Field.mk 0 be) (Field.mk 0 be) (Field.mk 0 be) (Field.mk 0 be)))))] [] (by kernel_rfl) (pOp_eff (by kernel_rfl) (by kernel_rfl) (eff_prim (by kernel_rfl) (Thing_eql a0.Thing (Thing.mk 0 (Point.mk 0 0) (A4.mk (Field.mk 0 be) (Field.mk 0 be) (Field.mk 0 be) (Field.mk 0 be))) _ _))) (.rd 2 [(2, qb (Thing.eqb a0.Thing (Thing.mk 0 (Point.mk 0 0) (A4.mk (Field.mk 0 be) (Field.mk 0 be) (Field.mk 0 be) (Field.mk 0 be))))), (42, qb (Thing.eqb a0.Thing (Thing.mk 0 (Point.mk 0 0) (A4.mk (Field.mk 0 be) (Field.mk 0 be) (Field.mk 0 be) (Field.mk 0 be)))))] [] (.thenN (.ret (.blockR (.thenR .fn))))))
        · exact SimI.rd 6 [(2, qb false), (42, qb false), (41, .tup []), (40, .tup []), (39, .tup []), (38, .tup [])] [] (.thenN (.ret (.blockR (.thenR .fn))))
      · exact SimI.rd 14 [(2, qb false), (42, qb false), (41, .tup []), (40, .tup []), (39, .tup []), (38, .tup []), (37, qb false), (36, qb false), (35, .tup []), (34, .tup []), (33, .tup []), (32, .tup []), (31, .tup []), (30, .tup [])] [] (.thenN (.ret (.blockR (.thenR .fn))))
    · refine Sim.sr 2 [(43, qb (a0.Kind == 3)), (44, qb (a0.Kind == 3))] [] (.cond (a0.Kind == 3) (by kernel_rfl) ?_ ?_)
      · refine Sim.st 4 [(48, qb (decide ((0 : Int) ≤ a0.ID))), (47, qb (decide ((0 : Int) ≤ a0.ID))), (46, qj a0.ID), (45, qp 1 1)] [] (.split 48 (decide ((0 : Int) ≤ a0.ID)) (by kernel_rfl) ?_ ?_)
        · refine SimI.rn 5 [(53, qb (decide (a0.ID ≤ 1000000))), (52, qb (decide (a0.ID ≤ 1000000))), (51, qb (decide (a0.ID ≤ 1000000))), (50, qj a0.ID), (49, qp 1 1)] [] (.split 53 (decide (a0.ID ≤ 1000000)) (by kernel_rfl) ?_ ?_)
          · refine SimI.rn 3 [(56, .agg [lj 0, lj 0, lj 0, lj 0, ls be, lj 0, ls be, lj 0, ls be, lj 0, ls be]), (55, .agg (Thing.cells a0.Thing)), (54, qp 1 2)] [] (.step ⟨some 57, POp.prim (Prim.bin BinOp.eql 28 false false) [Operand.tmp 55, Operand.tmp 56], some (53, true), []⟩ [(57, qb (Thing.eqb a0.Thing (Thing.mk 0 (Point.mk 0 0) (A4.mk (Field.mk 0 be) (Field.mk 0 be) (Field.mk 0 be) (Field.mk 0 be)))))] [] (by kernel_rfl) (pOp_eff (by kernel_rfl) (by kernel_rfl) (eff_prim (by kernel_rfl) (Thing_eql a0.Thing (Thing.mk 0 (Point.mk 0 0) (A4.mk (Field.mk 0 be) (Field.mk 0 be) (Field.mk 0 be) (Field.mk 0 be))) _ _))) (.rn 2 [(59, qb (Thing.eqb a0.Thing (Thing.mk 0 (Point.mk 0 0) (A4.mk (Field.mk 0 be) (Field.mk 0 be) (Field.mk 0 be) (Field.mk 0 be))))), (58, qb (Thing.eqb a0.Thing (Thing.mk 0 (Point.mk 0 0) (A4.mk (Field.mk 0 be) (Field.mk 0 be) (Field.mk 0 be) (Field.mk 0 be)))))] [] (.split 59 (Thing.eqb a0.Thing (Thing.mk 0 (Point.mk 0 0) (A4.mk (Field.mk 0 be) (Field.mk 0 be) (Field.mk 0 be) (Field.mk 0 be)))) (by kernel_rfl) ?_ ?_)))
            · exact SimI.rn 3 [(62, .agg [lj 0, li .u8 0, lj 0, lj 0, lj 0, ls be, lj 0, ls be, lj 0, ls be, lj 0, ls be]), (61, .agg (Delta.cells a0.Delta)), (60, qp 1 13)] [] (.step ⟨some 63, POp.prim (Prim.bin BinOp.eql 35 false false) [Operand.tmp 61, Operand.tmp 62], some (59, true), []⟩ [(63, qb (Delta.eqb a0.Delta (Delta.mk 0 0 (Point.mk 0 0) (A4.mk (Field.mk 0 be) (Field.mk 0 be) (Field.mk 0 be) (Field.mk 0 be)))))] [] (by kernel_rfl) (pOp_eff (by kernel_rfl) (by kernel_rfl) (eff_prim (by kernel_rfl) (Delta_eql a0.Delta (Delta.mk 0 0 (Point.mk 0 0) (A4.mk (Field.mk 0 be) (Field.mk 0 be) (Field.mk 0 be) (Field.mk 0 be))) _ _))) (.rd 2 [(2, qb (Delta.eqb a0.Delta (Delta.mk 0 0 (Point.mk 0 0) (A4.mk (Field.mk 0 be) (Field.mk 0 be) (Field.mk 0 be) (Field.mk 0 be))))), (64, qb (Delta.eqb a0.Delta (Delta.mk 0 0 (Point.mk 0 0) (A4.mk (Field.mk 0 be) (Field.mk 0 be) (Field.mk 0 be) (Field.mk 0 be)))))] [] (.thenN (.ret (.blockR (.thenR .fn))))))
            · exact SimI.rd 6 [(2, qb false), (64, qb false), (63, .tup []), (62, .tup []), (61, .tup []), (60, .tup [])] [] (.thenN (.ret (.blockR (.thenR .fn))))
          · exact SimI.rd 12 [(2, qb false), (64, qb false), (63, .tup []), (62, .tup []), (61, .tup []), (60, .tup []), (59, qb false), (58, qb false), (57, .tup []), (56, .tup []), (55, .tup []), (54, .tup [])] [] (.thenN (.ret (.blockR (.thenR .fn))))
        · exact SimI.rd 17 [(2, qb false), (64, qb false), (63, .tup []), (62, .tup []), (61, .tup []), (60, .tup []), (59, qb false), (58, qb false), (57, .tup []), (56, .tup []), (55, .tup []), (54, .tup []), (53, qb false), (52, qb false), (51, .tup []), (50, .tup []), (49, .tup [])] [] (.thenN (.ret (.blockR (.thenR .fn))))
      · exact Sim.skip (.blockN (.thenN (.sr 1 [(2, qb false)] [] (.ret .fn))))


end Go.Proofs.Ytobeamaaifgllaa
