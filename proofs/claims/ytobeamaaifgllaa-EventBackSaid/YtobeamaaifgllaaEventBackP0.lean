/-
  Functions of the program as functions of Lean. No condition.
-/
import Derived.Test.YtobeamaaifgllaaEventBackE
namespace Go.Proofs.Ytobeamaaifgllaa
open Go Go.Rx
set_option maxRecDepth 100000
set_option linter.unusedVariables false
set_option linter.unusedSimpArgs false
set_option linter.unnecessarySimpa false
-- 34: vedette/vedetteref6.SameAll
def F34_e : Bool → PV × List Ob := fun r => (.one (lb r), [])
def F34_l4 (n : Nat) (a0 : (List Thing)) (a1 : (List Thing)) : Nat → Int → Option Bool
  | 0, _ => none
  | m + 1, i3 =>
    if decide (i3 < ((a0).length : Int)) then
      (ix a0 i3).bind fun (x5 : Thing) =>
      (ix a1 i3).bind fun (x6 : Thing) =>
      if !(Thing.eqb x5 x6) then
        some false
      else
        (F34_l4 n a0 a1 m) (IntKind.wrap .i64 (i3 + 1))
    else
      some true
theorem F34_l4_ok (n : Nat) (a0 : (List Thing)) (a1 : (List Thing)) : ∀ (m : Nat) (i3 : Int), SimL Try.prog D (n + 8) m pc34_c25 [(0, .one (vw Thing.cod a0)), (1, .one (vw Thing.cod a1)), (5, qj i3)] [] (F34_l4 n a0 a1 m i3) (QB 0 (QT Try.prog D (n + 8) pc34_c31 (QF false pc34_r 0 F34_e))) := by
  intro m_l4
  induction m_l4 with
  | zero => intro i3; exact SimL.zero'  rfl
  | succ m_l4 ih_l4 =>
    intro i3
    refine SimL.succ ?_
    unfold F34_l4
    refine Sim.seq (.seq (.rg [(0, .one (vw Thing.cod a0)), (1, .one (vw Thing.cod a1)), (5, qj i3)] [] (.rd 4 [(14, qb (decide (i3 < ((a0).length : Int)))), (13, qj ((a0).length : Int)), (12, .one (vw Thing.cod a0)), (11, qj i3)] [] (.thenN (.cond (decide (i3 < ((a0).length : Int))) (by kernel_rfl) ?_ ?_)))))
    · refine Sim.skip (.thenN (.seq (.block (.st 2 [(18, qj i3), (17, .one (vw Thing.cod a0))] [] (.bind (og := ix a0 i3) ⟨some 19, POp.iaddrS 11 (Operand.tmp 17) (Operand.tmp 18), none, [(17, Hint.imm), (18, Hint.imm)]⟩ (fun x5 => [(19, .one (.eptr (Thing.cod.enc x5) 0))]) (fun x5 => []) (by kernel_rfl) (fun x5 hr => pOp_eff (by kernel_rfl) (by kernel_rfl) (eff_idx (c := Thing.cod) (l := a0) (k := .i64) (n := i3) (by kernel_rfl) (by kernel_rfl) (by kernel_rfl) hr)) (fun x5 => ?_))))))
      refine SimI.rn 3 [(22, qj i3), (21, .one (vw Thing.cod a1)), (20, .agg (Thing.cells x5))] [] (.bind (og := ix a1 i3) ⟨some 23, POp.iaddrS 11 (Operand.tmp 21) (Operand.tmp 22), none, [(21, Hint.imm), (22, Hint.imm)]⟩ (fun x6 => [(23, .one (.eptr (Thing.cod.enc x6) 0))]) (fun x6 => []) (by kernel_rfl) (fun x6 hr => pOp_eff (by kernel_rfl) (by kernel_rfl) (eff_idx (c := Thing.cod) (l := a1) (k := .i64) (n := i3) (by kernel_rfl) (by kernel_rfl) (by kernel_rfl) hr)) (fun x6 => ?_))
      refine SimI.rn 1 [(24, .agg (Thing.cells x6))] [] (.step ⟨some 25, POp.prim (Prim.bin BinOp.neq 28 false false) [Operand.tmp 20, Operand.tmp 24], none, [(20, Hint.imm), (24, Hint.imm)]⟩ [(25, qb (!(Thing.eqb x5 x6)))] [] (by kernel_rfl) (pOp_eff (by kernel_rfl) (by kernel_rfl) (eff_prim (by kernel_rfl) (Thing_eqn x5 x6 _ _))) (.dn (.thenN (.cond (!(Thing.eqb x5 x6)) (by kernel_rfl) ?_ ?_))))
      · exact Sim.sr 1 [(4, qb false)] [] (.ret (.blockR (.thenR (.loopR (.blockR (.thenR .fn))))))
      · refine Sim.skip (.blockN (.thenN (.region0 (.rd 3 [(5, qj (IntKind.wrap .i64 (i3 + 1))), (16, qj (IntKind.wrap .i64 (i3 + 1))), (15, qj i3)] [] (.loopN (.pr [0, 1, 5] [] [] [(0, .one (vw Thing.cod a0)), (1, .one (vw Thing.cod a1)), (5, qj (IntKind.wrap .i64 (i3 + 1)))] [] ?_))))))
        exact ih_l4 (IntKind.wrap .i64 (i3 + 1))
    · exact Sim.exit (.thenX (.loopX (.blockX (.thenN (.sr 1 [(4, qb true)] [] (.ret .fn))))))

def F34 (n : Nat) (a0 : (List Thing)) (a1 : (List Thing)) : Option Bool :=
  if ((a0).length : Int) != ((a1).length : Int) then
    some false
  else
    F34_l4 n a0 a1 (n + 8) 0
theorem F34_ok (n : Nat) (a0 : (List Thing)) (a1 : (List Thing)) : ∀ r, F34 n a0 a1 = some r → D 34 [.one (vw Thing.cod a0), .one (vw Thing.cod a1)] [] = some (F34_e r) := by
  refine fn_to (D := D) (n := n + 8) (nt := 26) (rs := pc34_r) (c := pc34_c34) (L := [(0, .one (vw Thing.cod a0)), (1, .one (vw Thing.cod a1))]) (M := []) (k := 0) rfl rfl rfl rfl rfl rfl rfl ?_
  unfold F34
  refine Sim.sr 1 [(4, qb false)] [] (.seq (.sr 5 [(10, qb (((a0).length : Int) != ((a1).length : Int))), (9, qj ((a1).length : Int)), (8, .one (vw Thing.cod a1)), (7, qj ((a0).length : Int)), (6, .one (vw Thing.cod a0))] [] (.cond (((a0).length : Int) != ((a1).length : Int)) (by kernel_rfl) ?_ ?_)))
  · exact Sim.sr 1 [(4, qb false)] [] (.ret (.thenR .fn))
  · refine Sim.skip (.thenN (.seq (.sr 1 [(5, qj 0)] [] (.block (.loop (.pr [0, 1, 5] [] [] [(0, .one (vw Thing.cod a0)), (1, .one (vw Thing.cod a1)), (5, qj 0)] [] ?_))))))
    exact F34_l4_ok n a0 a1 (n + 8) 0


-- 67: vedette/geom.On
def F67_e : Bool → PV × List Ob := fun r => (.one (lb r), [])
def F67 (n : Nat) (a0 : Point) : Option Bool :=
  if decide ((0 : Int) ≤ a0.X) then
    if decide (a0.X < 64) then
      if decide ((0 : Int) ≤ a0.Y) then
        some (decide (a0.Y < 64))
      else
        some false
    else
      some false
  else
    some false
theorem F67_ok (n : Nat) (a0 : Point) : ∀ r, F67 n a0 = some r → D 67 [.agg [li .i64 a0.X, li .i64 a0.Y]] [] = some (F67_e r) := by
  refine fn_to (D := D) (n := n + 8) (nt := 21) (rs := pc67_r) (c := pc67_c5) (L := [(0, .agg [lj a0.X, lj a0.Y])]) (M := []) (k := 0) rfl rfl rfl rfl rfl rfl rfl ?_
  unfold F67
  refine Sim.sr 2 [(2, qb false), (1, qp 1 0)] [(1, some (.cells [lj a0.X, lj a0.Y]))] (.st 4 [(6, qb (decide ((0 : Int) ≤ a0.X))), (5, qb (decide ((0 : Int) ≤ a0.X))), (4, qj a0.X), (3, qp 1 0)] [] (.split 6 (decide ((0 : Int) ≤ a0.X)) (by kernel_rfl) ?_ ?_))
  · refine SimI.rn 5 [(11, qb (decide (a0.X < 64))), (10, qb (decide (a0.X < 64))), (9, qb (decide (a0.X < 64))), (8, qj a0.X), (7, qp 1 0)] [] (.split 11 (decide (a0.X < 64)) (by kernel_rfl) ?_ ?_)
    · refine SimI.rn 5 [(16, qb (decide ((0 : Int) ≤ a0.Y))), (15, qb (decide ((0 : Int) ≤ a0.Y))), (14, qb (decide ((0 : Int) ≤ a0.Y))), (13, qj a0.Y), (12, qp 1 1)] [] (.split 16 (decide ((0 : Int) ≤ a0.Y)) (by kernel_rfl) ?_ ?_)
      · exact SimI.rd 5 [(2, qb (decide (a0.Y < 64))), (20, qb (decide (a0.Y < 64))), (19, qb (decide (a0.Y < 64))), (18, qj a0.Y), (17, qp 1 1)] [] (.thenN (.ret .fn))
      · exact SimI.rd 5 [(2, qb false), (20, qb false), (19, .tup []), (18, .tup []), (17, .tup [])] [] (.thenN (.ret .fn))
    · exact SimI.rd 10 [(2, qb false), (20, qb false), (19, .tup []), (18, .tup []), (17, .tup []), (16, qb false), (15, qb false), (14, .tup []), (13, .tup []), (12, .tup [])] [] (.thenN (.ret .fn))
  · exact SimI.rd 15 [(2, qb false), (20, qb false), (19, .tup []), (18, .tup []), (17, .tup []), (16, qb false), (15, qb false), (14, .tup []), (13, .tup []), (12, .tup []), (11, qb false), (10, qb false), (9, .tup []), (8, .tup []), (7, .tup [])] [] (.thenN (.ret .fn))


-- 70: vedette/fields.IsField
def F70_e : Bool → PV × List Ob := fun r => (.one (lb r), [])
def F70 (n : Nat) (a0 : Field) : Option Bool :=
  if a0.N == 0 then
    some (decide ((a0.Text.size : Int) ≤ 12))
  else
    if a0.Text.toList == ByteArray.empty.toList then
      some (decide ((a0.Text.size : Int) ≤ 12))
    else
      some false
theorem F70_ok (n : Nat) (a0 : Field) : ∀ r, F70 n a0 = some r → D 70 [.agg [li .i64 a0.N, ls a0.Text]] [] = some (F70_e r) := by
  refine fn_to (D := D) (n := n + 8) (nt := 17) (rs := pc70_r) (c := pc70_c5) (L := [(0, .agg [lj a0.N, ls a0.Text])]) (M := []) (k := 0) rfl rfl rfl rfl rfl rfl rfl ?_
  unfold F70
  refine Sim.sr 2 [(2, qb false), (1, qp 1 0)] [(1, some (.cells [lj a0.N, ls a0.Text]))] (.st 4 [(6, qb (a0.N == 0)), (5, qb (a0.N == 0)), (4, qj a0.N), (3, qp 1 0)] [] (.split 6 (a0.N == 0) (by kernel_rfl) ?_ ?_))
  · exact SimI.rd 11 [(2, qb (decide ((a0.Text.size : Int) ≤ 12))), (16, qb (decide ((a0.Text.size : Int) ≤ 12))), (15, qb (decide ((a0.Text.size : Int) ≤ 12))), (14, qj (a0.Text.size : Int)), (13, qs a0.Text), (12, qp 1 1), (11, qb true), (10, qb true), (9, .tup []), (8, .tup []), (7, .tup [])] [] (.thenN (.ret .fn))
  · refine SimI.rn 5 [(11, qb (a0.Text.toList == be.toList)), (10, qb (a0.Text.toList == be.toList)), (9, qb (a0.Text.toList == be.toList)), (8, qs a0.Text), (7, qp 1 1)] [] (.split 11 (a0.Text.toList == be.toList) (by kernel_rfl) ?_ ?_)
    · exact SimI.rd 6 [(2, qb (decide ((a0.Text.size : Int) ≤ 12))), (16, qb (decide ((a0.Text.size : Int) ≤ 12))), (15, qb (decide ((a0.Text.size : Int) ≤ 12))), (14, qj (a0.Text.size : Int)), (13, qs a0.Text), (12, qp 1 1)] [] (.thenN (.ret .fn))
    · exact SimI.rd 6 [(2, qb false), (16, qb false), (15, .tup []), (14, .tup []), (13, .tup []), (12, .tup [])] [] (.thenN (.ret .fn))


-- 69: vedette/thing.Is$1
def F69_e : Bool → PV × List Ob := fun r => (.one (lb r), [])
def F69 (n : Nat) (a0 : Field) : Option Bool :=
  (F70 n a0).bind fun (r1 : Bool) =>
  some (!(r1))
theorem F69_ok (n : Nat) (a0 : Field) : ∀ r, F69 n a0 = some r → D 69 [.agg [li .i64 a0.N, ls a0.Text]] [] = some (F69_e r) := by
  refine fn_to (D := D) (n := n + 8) (nt := 6) (rs := pc69_r) (c := pc69_c5) (L := [(0, .agg [lj a0.N, ls a0.Text])]) (M := []) (k := 0) rfl rfl rfl rfl rfl rfl rfl ?_
  unfold F69
  refine Sim.sr 2 [(2, qb false), (1, qp 1 0)] [(1, some (.cells [lj a0.N, ls a0.Text]))] (.st 1 [(3, .agg [lj a0.N, ls a0.Text])] [] (.cl 4 true [[]] 70 [Operand.tmp 3] none (fun r1 => qb r1) [.agg [lj a0.N, ls a0.Text]] (F70_ok n a0) (fun r1 => ?_)))
  exact SimI.rd 2 [(2, qb (!(r1))), (5, qb (!(r1)))] [] (.thenN (.ret .fn))


-- 103: slices.IndexFunc[[]vedette/api.Field,vedette/api.Field]
def F103s0_e (a0 : (List Field)) : Int → PV × List Ob := fun r => (.one (li .i64 r), [])
def F103s0_l4 (n : Nat) (a0 : (List Field)) : Nat → Int → Option Int
  | 0, _ => none
  | m + 1, i3 =>
    if decide (i3 < ((a0).length : Int)) then
      (ix a0 i3).bind fun (x5 : Field) =>
      (F69 n x5).bind fun (r6 : Bool) =>
      if r6 then
        some i3
      else
        (F103s0_l4 n a0 m) (IntKind.wrap .i64 (i3 + 1))
    else
      some (-1)
theorem F103s0_l4_ok (n : Nat) (a0 : (List Field)) : ∀ (m : Nat) (i3 : Int), SimL Try.prog D (n + 8) m pc103_c20 [(0, .one (vw Field.cod a0)), (1, .one (.val (.func (.func 69) #[] #[]))), (7, qj ((a0).length : Int)), (8, qj i3)] [] (F103s0_l4 n a0 m i3) (QB 0 (QT Try.prog D (n + 8) pc103_c26 (QF false pc103_r 0 (F103s0_e a0)))) := by
  intro m_l4
  induction m_l4 with
  | zero => intro i3; exact SimL.zero'  rfl
  | succ m_l4 ih_l4 =>
    intro i3
    refine SimL.succ ?_
    unfold F103s0_l4
    refine Sim.seq (.rg [(0, .one (vw Field.cod a0)), (1, .one (.val (.func (.func 69) #[] #[]))), (7, qj ((a0).length : Int)), (8, qj i3)] [] (.rd 1 [(9, qb (decide (i3 < ((a0).length : Int))))] [] (.thenN (.seq (.cond (decide (i3 < ((a0).length : Int))) (by kernel_rfl) ?_ ?_)))))
    · refine Sim.skip (.thenN (.seq (.block (.sr 2 [(5, qj i3), (10, qj i3)] [] (.st 3 [(13, qj i3), (12, .one (vw Field.cod a0)), (11, .one (.val (.func (.func 69) #[] #[])))] [] (.bind (og := ix a0 i3) ⟨some 14, POp.iaddrS 2 (Operand.tmp 12) (Operand.tmp 13), none, []⟩ (fun x5 => [(14, .one (.eptr (Field.cod.enc x5) 0))]) (fun x5 => []) (by kernel_rfl) (fun x5 hr => pOp_eff (by kernel_rfl) (by kernel_rfl) (eff_idx (c := Field.cod) (l := a0) (k := .i64) (n := i3) (by kernel_rfl) (by kernel_rfl) (by kernel_rfl) hr)) (fun x5 => ?_)))))))
      refine SimI.rn 1 [(15, .agg [lj x5.N, ls x5.Text])] [] (.bind (og := F69 n x5) ⟨some 16, POp.callv true [[]] (Operand.tmp 11) [Operand.tmp 15], none, []⟩ (fun r6 => [(16, qb r6)]) (fun r6 => []) (by kernel_rfl) (fun r6 hr => pOp_eff (by kernel_rfl) (by kernel_rfl) (eff_callvv (by kernel_rfl) (ARGS := [.agg [lj x5.N, ls x5.Text]]) (by kernel_rfl) (args_clean (by kernel_rfl) args_nil) (F69_ok n x5 r6 hr) (by kernel_rfl))) (fun r6 => ?_))
      refine SimI.dn (.thenN (.cond r6 (by kernel_rfl) ?_ ?_))
      · exact Sim.sr 2 [(4, qj i3), (17, qj i3)] [] (.ret (.blockR (.thenR (.loopR (.blockR (.thenR .fn))))))
      · refine Sim.skip (.blockN (.thenN (.region0 (.rd 2 [(8, qj (IntKind.wrap .i64 (i3 + 1))), (18, qj (IntKind.wrap .i64 (i3 + 1)))] [] (.loopN (.pr [0, 1, 7, 8] [] [] [(0, .one (vw Field.cod a0)), (1, .one (.val (.func (.func 69) #[] #[]))), (7, qj ((a0).length : Int)), (8, qj (IntKind.wrap .i64 (i3 + 1)))] [] ?_))))))
        exact ih_l4 (IntKind.wrap .i64 (i3 + 1))
    · exact Sim.exit (.thenX (.loopX (.blockX (.thenN (.sr 1 [(4, qj (-1))] [] (.ret .fn))))))

def F103s0 (n : Nat) (a0 : (List Field)) : Option Int :=
  F103s0_l4 n a0 (n + 8) 0
theorem F103s0_ok (n : Nat) (a0 : (List Field)) : ∀ r, F103s0 n a0 = some r → D 103 [.one (vw Field.cod a0), .one (.val (.func (.func 69) #[] #[]))] [] = some ((F103s0_e a0) r) := by
  refine fn_to (D := D) (n := n + 8) (nt := 19) (rs := pc103_r) (c := pc103_c28) (L := [(0, .one (vw Field.cod a0)), (1, .one (.val (.func (.func 69) #[] #[])))]) (M := []) (k := 0) rfl rfl rfl rfl rfl rfl rfl ?_
  unfold F103s0
  refine Sim.sr 1 [(4, qj 0)] [] (.seq (.sr 3 [(8, qj 0), (7, qj ((a0).length : Int)), (6, .one (vw Field.cod a0))] [] (.block (.loop (.pr [0, 1, 7, 8] [] [] [(0, .one (vw Field.cod a0)), (1, .one (.val (.func (.func 69) #[] #[]))), (7, qj ((a0).length : Int)), (8, qj 0)] [] ?_)))))
  exact F103s0_l4_ok n a0 (n + 8) 0


-- 68: slices.ContainsFunc[[]vedette/api.Field,vedette/api.Field]
def F68s0_e (a0 : (List Field)) : Bool → PV × List Ob := fun r => (.one (lb r), [])
def F68s0 (n : Nat) (a0 : (List Field)) : Option Bool :=
  (F103s0 n a0).bind fun (r1 : Int) =>
  some (decide ((0 : Int) ≤ r1))
theorem F68s0_ok (n : Nat) (a0 : (List Field)) : ∀ r, F68s0 n a0 = some r → D 68 [.one (vw Field.cod a0), .one (.val (.func (.func 69) #[] #[]))] [] = some ((F68s0_e a0) r) := by
  refine fn_to (D := D) (n := n + 8) (nt := 9) (rs := pc68_r) (c := pc68_c5) (L := [(0, .one (vw Field.cod a0)), (1, .one (.val (.func (.func 69) #[] #[])))]) (M := []) (k := 0) rfl rfl rfl rfl rfl rfl rfl ?_
  unfold F68s0
  refine Sim.sr 1 [(4, qb false)] [] (.st 2 [(6, .one (.val (.func (.func 69) #[] #[]))), (5, .one (vw Field.cod a0))] [] (.bind (og := F103s0 n a0) ⟨some 7, POp.gcall false false [300000, 300001, 300002, 300003, 300004, 300005, 300006, 300007] [[(0, 2)], []] 103 [Operand.tmp 5, Operand.tmp 6], none, []⟩ (fun r1 => [(7, qj r1)]) (fun r1 => []) (by kernel_rfl) (fun r1 hr => pOp_eff (by kernel_rfl) (by kernel_rfl) (eff_gcall (ks := []) (rks := []) (new := []) (ARGS := [.one (vw Field.cod a0), .one (.val (.func (.func 69) #[] #[]))]) (args1 := [.one (vw Field.cod a0), .one (.val (.func (.func 69) #[] #[]))]) (args2 := [.one (vw Field.cod a0), .one (.val (.func (.func 69) #[] #[]))]) (os := []) (os' := []) (os1 := []) (res := qj r1) (res1 := qj r1) (r := qj r1) (N := []) (by kernel_rfl) (readA_ow (readA_keep (by kernel_rfl) (readA_keep (by kernel_rfl) (readA_nil)))) (by kernel_rfl) (by kernel_rfl) (by kernel_rfl) (by kernel_rfl) (F103s0_ok n a0 r1 hr) (by kernel_rfl) (by kernel_rfl) (by kernel_rfl) rfl (by kernel_rfl) (by kernel_rfl) (by kernel_rfl))) (fun r1 => ?_)))
  exact SimI.rd 2 [(4, qb (decide ((0 : Int) ≤ r1))), (8, qb (decide ((0 : Int) ≤ r1)))] [] (.thenN (.ret .fn))


-- 24: vedette/thing.Is
def F24_e : Bool → PV × List Ob := fun r => (.one (lb r), [])
def F24 (n : Nat) (a0 : Thing) : Option Bool :=
  if decide ((0 : Int) ≤ a0.ID) then
    if decide (a0.ID ≤ 1000000) then
      (F67 n a0.At).bind fun (r1 : Bool) =>
      if r1 then
        (F68s0 n [a0.F.a0, a0.F.a1, a0.F.a2, a0.F.a3]).bind fun (r2 : Bool) =>
        some (!(r2))
      else
        some false
    else
      some false
  else
    some false
theorem F24_ok (n : Nat) (a0 : Thing) : ∀ r, F24 n a0 = some r → D 24 [.agg (Thing.cells a0)] [] = some (F24_e r) := by
  refine fn_to (D := D) (n := n + 8) (nt := 22) (rs := pc24_r) (c := pc24_c5) (L := [(0, .agg (Thing.cells a0))]) (M := []) (k := 0) rfl rfl rfl rfl rfl rfl rfl ?_
  unfold F24
  refine Sim.sr 2 [(2, qb false), (1, qp 1 0)] [(1, some (.cells (Thing.cells a0)))] (.st 4 [(6, qb (decide ((0 : Int) ≤ a0.ID))), (5, qb (decide ((0 : Int) ≤ a0.ID))), (4, qj a0.ID), (3, qp 1 0)] [] (.split 6 (decide ((0 : Int) ≤ a0.ID)) (by kernel_rfl) ?_ ?_))
  · refine SimI.rn 5 [(11, qb (decide (a0.ID ≤ 1000000))), (10, qb (decide (a0.ID ≤ 1000000))), (9, qb (decide (a0.ID ≤ 1000000))), (8, qj a0.ID), (7, qp 1 0)] [] (.split 11 (decide (a0.ID ≤ 1000000)) (by kernel_rfl) ?_ ?_)
    · refine SimI.rn 2 [(13, .agg [lj a0.At.X, lj a0.At.Y]), (12, qp 1 1)] [] (.cl 14 true [[]] 67 [Operand.tmp 13] (some (11, true)) (fun r1 => qb r1) [.agg [lj a0.At.X, lj a0.At.Y]] (F67_ok n a0.At) (fun r1 => ?_))
      refine SimI.rn 2 [(16, qb r1), (15, qb r1)] [] (.split 16 r1 (by kernel_rfl) ?_ ?_)
      · refine SimI.rn 2 [(18, .one (.csl 1 2 3 4)), (17, qp 1 3)] [] (.bind (og := F68s0 n [a0.F.a0, a0.F.a1, a0.F.a2, a0.F.a3]) ⟨some 19, POp.gcall false false [1, 300000, 300001, 300002, 300003, 300004, 300005, 300006, 300007] [[(0, 2)], []] 68 [Operand.tmp 18, Operand.func 69], some (16, true), []⟩ (fun r2 => [(19, qb r2)]) (fun r2 => []) (by kernel_rfl) (fun r2 hr => pOp_eff (by kernel_rfl) (by kernel_rfl) (eff_gcall (ks := []) (rks := [1]) (new := []) (ARGS := [.one (.csl 1 2 3 4), .one (.val (.func (.func 69) #[] #[]))]) (args1 := [.one (vw Field.cod [a0.F.a0, a0.F.a1, a0.F.a2, a0.F.a3]), .one (.val (.func (.func 69) #[] #[]))]) (args2 := [.one (vw Field.cod [a0.F.a0, a0.F.a1, a0.F.a2, a0.F.a3]), .one (.val (.func (.func 69) #[] #[]))]) (os := []) (os' := []) (os1 := []) (res := qb r2) (res1 := qb r2) (r := qb r2) (N := []) (by kernel_rfl) (readA_ow (readA_csl (c := Field.cod) (k := 1) (off := 3) (cs := (Thing.cells a0)) (l := [a0.F.a0, a0.F.a1, a0.F.a2, a0.F.a3]) (by kernel_rfl) (by kernel_rfl) (by kernel_rfl) (by kernel_rfl) (readA_keep (by kernel_rfl) (readA_nil)))) (by kernel_rfl) (by kernel_rfl) (by kernel_rfl) (by kernel_rfl) (F68s0_ok n [a0.F.a0, a0.F.a1, a0.F.a2, a0.F.a3] r2 hr) (by kernel_rfl) (by kernel_rfl) (by kernel_rfl) rfl (by kernel_rfl) (by kernel_rfl) (by kernel_rfl))) (fun r2 => ?_))
        exact SimI.rd 3 [(2, qb (!(r2))), (21, qb (!(r2))), (20, qb (!(r2)))] [] (.thenN (.ret .fn))
      · exact SimI.rd 6 [(2, qb false), (21, qb false), (20, .tup []), (19, .tup []), (18, .tup []), (17, .tup [])] [] (.thenN (.ret .fn))
    · exact SimI.rd 11 [(2, qb false), (21, qb false), (20, .tup []), (19, .tup []), (18, .tup []), (17, .tup []), (16, qb false), (15, qb false), (14, .tup []), (13, .tup []), (12, .tup [])] [] (.thenN (.ret .fn))
  · exact SimI.rd 16 [(2, qb false), (21, qb false), (20, .tup []), (19, .tup []), (18, .tup []), (17, .tup []), (16, qb false), (15, qb false), (14, .tup []), (13, .tup []), (12, .tup []), (11, qb false), (10, qb false), (9, .tup []), (8, .tup []), (7, .tup [])] [] (.thenN (.ret .fn))


-- 99: vedette/fields.has
def F99_e : Bool → PV × List Ob := fun r => (.one (lb r), [])
def F99 (n : Nat) (a0 : Int) (a1 : Int) : Option Bool :=
  if ¬ (IntKind.wrap .i64 (a1 + 1) < 0) then
    some ((bitsI .and .u8 (shrI .u8 a0 (IntKind.wrap .i64 (a1 + 1))) 1) == 1)
  else none
theorem F99_ok (n : Nat) (a0 : Int) (a1 : Int) : ∀ r, F99 n a0 a1 = some r → D 99 [.one (li .u8 a0), .one (li .i64 a1)] [] = some (F99_e r) := by
  refine fn_to (D := D) (n := n + 8) (nt := 11) (rs := pc99_r) (c := pc99_c5) (L := [(0, .one (li .u8 a0)), (1, qj a1)]) (M := []) (k := 0) rfl rfl rfl rfl rfl rfl rfl ?_
  unfold F99
  exact Sim.sr 1 [(4, qb false)] [] (.st 3 [(7, qj (IntKind.wrap .i64 (a1 + 1))), (6, qj a1), (5, .one (li .u8 a0))] [] (.guard (c := ¬ (IntKind.wrap .i64 (a1 + 1) < 0)) ⟨some 8, POp.prim (Prim.bin BinOp.shr 5 false false) [Operand.tmp 5, Operand.tmp 7], none, []⟩ [(8, .one (li .u8 (shrI .u8 a0 (IntKind.wrap .i64 (a1 + 1)))))] [] (by kernel_rfl) (fun hc => pOp_eff (by kernel_rfl) (by kernel_rfl) (eff_prim (by kernel_rfl) (pr_shr _ _ _ .u8 .i64 a0 (IntKind.wrap .i64 (a1 + 1)) hc))) (.rd 3 [(4, qb ((bitsI .and .u8 (shrI .u8 a0 (IntKind.wrap .i64 (a1 + 1))) 1) == 1)), (10, qb ((bitsI .and .u8 (shrI .u8 a0 (IntKind.wrap .i64 (a1 + 1))) 1) == 1)), (9, .one (li .u8 (bitsI .and .u8 (shrI .u8 a0 (IntKind.wrap .i64 (a1 + 1))) 1)))] [] (.thenN (.ret .fn)))))


-- 77: vedette/fields.IsDelta
def F77_e : Bool → PV × List Ob := fun r => (.one (lb r), [])
def F77_u15 (n : Nat) : Option Bool :=
    some true
theorem F77_u15_ok (n : Nat) (a0 : Delta) : SimL Try.prog D (n + 8) (n + 4) pc77_c34 [(1, qp 1 0), (40, .agg (A4_Field.cells a0.F)), (41, qj 4)] [(1, some (.cells (Delta.cells a0)))] (F77_u15 n) (QB 0 (QT Try.prog D (n + 8) pc77_c40 (QF false pc77_r 0 F77_e))) := by
    unfold F77_u15
    exact SimL.succ (.seq (.rg [(1, qp 1 0), (40, .agg (A4_Field.cells a0.F)), (41, qj 4)] [(1, some (.cells (Delta.cells a0)))] (.rd 1 [(42, qb false)] [] (.thenN (.seq (.condF (by kernel_rfl) (.exit (.thenX (.loopX (.blockX (.thenN (.sr 1 [(2, qb true)] [] (.ret .fn)))))))))))))

def F77_u12 (n : Nat) (a0 : Delta) : Option Bool :=
    (F70 n a0.F.a3).bind fun (r13 : Bool) =>
    if !(r13) then
      some false
    else
      (F99 n a0.Mask 3).bind fun (r14 : Bool) =>
      if !(r14) then
        if !(Field.eqb a0.F.a3 (Field.mk 0 ByteArray.empty)) then
          some false
        else
          F77_u15 n
      else
        F77_u15 n
theorem F77_u12_ok (n : Nat) (a0 : Delta) : SimL Try.prog D (n + 8) (n + 5) pc77_c34 [(1, qp 1 0), (40, .agg (A4_Field.cells a0.F)), (41, qj 3)] [(1, some (.cells (Delta.cells a0)))] (F77_u12 n a0) (QB 0 (QT Try.prog D (n + 8) pc77_c40 (QF false pc77_r 0 F77_e))) := by
    unfold F77_u12
    refine SimL.succ (.seq (.rg [(1, qp 1 0), (40, .agg (A4_Field.cells a0.F)), (41, qj 3)] [(1, some (.cells (Delta.cells a0)))] (.rd 1 [(42, qb true)] [] (.thenN (.seq (.condT (by kernel_rfl) (.skip (.thenN (.seq (.block (.sr 5 [(3, qj 3), (4, qp 4 0), (44, .agg [lj a0.F.a3.N, ls a0.F.a3.Text]), (43, qj 3)] [(4, some (.cells [lj a0.F.a3.N, ls a0.F.a3.Text])), (4, some (.cells [lj 0, ls be]))] (.st 1 [(45, .agg [lj a0.F.a3.N, ls a0.F.a3.Text])] [] (.cl 46 true [[]] 70 [Operand.tmp 45] none (fun r13 => qb r13) [.agg [lj a0.F.a3.N, ls a0.F.a3.Text]] (F70_ok n a0.F.a3) (fun r13 => ?_))))))))))))))
    refine SimI.rn 2 [(48, qb (!(r13))), (47, qb (!(r13)))] [] (.split 48 (!(r13)) (by kernel_rfl) ?_ ?_)
    · exact SimI.rd 11 [(59, qb true), (58, .tup []), (57, .tup []), (56, .tup []), (55, .tup []), (54, .tup []), (53, .tup []), (52, .tup []), (51, .tup []), (50, .tup []), (49, .tup [])] [] (.thenN (.condT (by kernel_rfl) (.sr 1 [(2, qb false)] [] (.ret (.blockR (.thenR (.loopR (.blockR (.thenR .fn)))))))))
    · refine SimI.rn 3 [(51, qj 3), (50, .one (li .u8 a0.Mask)), (49, qp 1 1)] [] (.cl 52 true [[], []] 99 [Operand.tmp 50, Operand.tmp 51] (some (48, false)) (fun r14 => qb r14) [.one (li .u8 a0.Mask), qj 3] (F99_ok n a0.Mask 3) (fun r14 => ?_))
      refine SimI.rn 2 [(54, qb (!(r14))), (53, qb (!(r14)))] [] (.split 54 (!(r14)) (by kernel_rfl) ?_ ?_)
      · refine SimI.rn 2 [(56, .agg [lj 0, ls be]), (55, .agg [lj a0.F.a3.N, ls a0.F.a3.Text])] [] (.step ⟨some 57, POp.prim (Prim.bin BinOp.neq 25 false false) [Operand.tmp 55, Operand.tmp 56], some (54, true), []⟩ [(57, qb (!(Field.eqb a0.F.a3 (Field.mk 0 be))))] [] (by kernel_rfl) (pOp_eff (by kernel_rfl) (by kernel_rfl) (eff_prim (by kernel_rfl) (Field_eqn a0.F.a3 (Field.mk 0 be) _ _))) (.rd 2 [(59, qb (!(Field.eqb a0.F.a3 (Field.mk 0 be)))), (58, qb (!(Field.eqb a0.F.a3 (Field.mk 0 be))))] [] (.thenN (.cond (!(Field.eqb a0.F.a3 (Field.mk 0 be))) (by kernel_rfl) ?_ ?_))))
        · exact Sim.sr 1 [(2, qb false)] [] (.ret (.blockR (.thenR (.loopR (.blockR (.thenR .fn))))))
        · refine Sim.skip (.blockN (.thenN (.region0 (.rd 2 [(41, qj 4), (60, qj 4)] [] (.loopN (.pr [1, 40, 41] [1, 4] [] [(1, qp 1 0), (40, .agg (A4_Field.cells a0.F)), (41, qj 4)] [(1, some (.cells (Delta.cells a0)))] ?_))))))
          exact F77_u15_ok n a0
      · refine SimI.rd 5 [(59, qb false), (58, qb false), (57, .tup []), (56, .tup []), (55, .tup [])] [] (.thenN (.condF (by kernel_rfl) (.skip (.blockN (.thenN (.region0 (.rd 2 [(41, qj 4), (60, qj 4)] [] (.loopN (.pr [1, 40, 41] [1, 4] [] [(1, qp 1 0), (40, .agg (A4_Field.cells a0.F)), (41, qj 4)] [(1, some (.cells (Delta.cells a0)))] ?_)))))))))
        exact F77_u15_ok n a0

def F77_u9 (n : Nat) (a0 : Delta) : Option Bool :=
    (F70 n a0.F.a2).bind fun (r10 : Bool) =>
    if !(r10) then
      some false
    else
      (F99 n a0.Mask 2).bind fun (r11 : Bool) =>
      if !(r11) then
        if !(Field.eqb a0.F.a2 (Field.mk 0 ByteArray.empty)) then
          some false
        else
          F77_u12 n a0
      else
        F77_u12 n a0
theorem F77_u9_ok (n : Nat) (a0 : Delta) : SimL Try.prog D (n + 8) (n + 6) pc77_c34 [(1, qp 1 0), (40, .agg (A4_Field.cells a0.F)), (41, qj 2)] [(1, some (.cells (Delta.cells a0)))] (F77_u9 n a0) (QB 0 (QT Try.prog D (n + 8) pc77_c40 (QF false pc77_r 0 F77_e))) := by
    unfold F77_u9
    refine SimL.succ (.seq (.rg [(1, qp 1 0), (40, .agg (A4_Field.cells a0.F)), (41, qj 2)] [(1, some (.cells (Delta.cells a0)))] (.rd 1 [(42, qb true)] [] (.thenN (.seq (.condT (by kernel_rfl) (.skip (.thenN (.seq (.block (.sr 5 [(3, qj 2), (4, qp 4 0), (44, .agg [lj a0.F.a2.N, ls a0.F.a2.Text]), (43, qj 2)] [(4, some (.cells [lj a0.F.a2.N, ls a0.F.a2.Text])), (4, some (.cells [lj 0, ls be]))] (.st 1 [(45, .agg [lj a0.F.a2.N, ls a0.F.a2.Text])] [] (.cl 46 true [[]] 70 [Operand.tmp 45] none (fun r10 => qb r10) [.agg [lj a0.F.a2.N, ls a0.F.a2.Text]] (F70_ok n a0.F.a2) (fun r10 => ?_))))))))))))))
    refine SimI.rn 2 [(48, qb (!(r10))), (47, qb (!(r10)))] [] (.split 48 (!(r10)) (by kernel_rfl) ?_ ?_)
    · exact SimI.rd 11 [(59, qb true), (58, .tup []), (57, .tup []), (56, .tup []), (55, .tup []), (54, .tup []), (53, .tup []), (52, .tup []), (51, .tup []), (50, .tup []), (49, .tup [])] [] (.thenN (.condT (by kernel_rfl) (.sr 1 [(2, qb false)] [] (.ret (.blockR (.thenR (.loopR (.blockR (.thenR .fn)))))))))
    · refine SimI.rn 3 [(51, qj 2), (50, .one (li .u8 a0.Mask)), (49, qp 1 1)] [] (.cl 52 true [[], []] 99 [Operand.tmp 50, Operand.tmp 51] (some (48, false)) (fun r11 => qb r11) [.one (li .u8 a0.Mask), qj 2] (F99_ok n a0.Mask 2) (fun r11 => ?_))
      refine SimI.rn 2 [(54, qb (!(r11))), (53, qb (!(r11)))] [] (.split 54 (!(r11)) (by kernel_rfl) ?_ ?_)
      · refine SimI.rn 2 [(56, .agg [lj 0, ls be]), (55, .agg [lj a0.F.a2.N, ls a0.F.a2.Text])] [] (.step ⟨some 57, POp.prim (Prim.bin BinOp.neq 25 false false) [Operand.tmp 55, Operand.tmp 56], some (54, true), []⟩ [(57, qb (!(Field.eqb a0.F.a2 (Field.mk 0 be))))] [] (by kernel_rfl) (pOp_eff (by kernel_rfl) (by kernel_rfl) (eff_prim (by kernel_rfl) (Field_eqn a0.F.a2 (Field.mk 0 be) _ _))) (.rd 2 [(59, qb (!(Field.eqb a0.F.a2 (Field.mk 0 be)))), (58, qb (!(Field.eqb a0.F.a2 (Field.mk 0 be))))] [] (.thenN (.cond (!(Field.eqb a0.F.a2 (Field.mk 0 be))) (by kernel_rfl) ?_ ?_))))
        · exact Sim.sr 1 [(2, qb false)] [] (.ret (.blockR (.thenR (.loopR (.blockR (.thenR .fn))))))
        · refine Sim.skip (.blockN (.thenN (.region0 (.rd 2 [(41, qj 3), (60, qj 3)] [] (.loopN (.pr [1, 40, 41] [1, 4] [] [(1, qp 1 0), (40, .agg (A4_Field.cells a0.F)), (41, qj 3)] [(1, some (.cells (Delta.cells a0)))] ?_))))))
          exact F77_u12_ok n a0
      · refine SimI.rd 5 [(59, qb false), (58, qb false), (57, .tup []), (56, .tup []), (55, .tup [])] [] (.thenN (.condF (by kernel_rfl) (.skip (.blockN (.thenN (.region0 (.rd 2 [(41, qj 3), (60, qj 3)] [] (.loopN (.pr [1, 40, 41] [1, 4] [] [(1, qp 1 0), (40, .agg (A4_Field.cells a0.F)), (41, qj 3)] [(1, some (.cells (Delta.cells a0)))] ?_)))))))))
        exact F77_u12_ok n a0

def F77_u6 (n : Nat) (a0 : Delta) : Option Bool :=
    (F70 n a0.F.a1).bind fun (r7 : Bool) =>
    if !(r7) then
      some false
    else
      (F99 n a0.Mask 1).bind fun (r8 : Bool) =>
      if !(r8) then
        if !(Field.eqb a0.F.a1 (Field.mk 0 ByteArray.empty)) then
          some false
        else
          F77_u9 n a0
      else
        F77_u9 n a0
theorem F77_u6_ok (n : Nat) (a0 : Delta) : SimL Try.prog D (n + 8) (n + 7) pc77_c34 [(1, qp 1 0), (40, .agg (A4_Field.cells a0.F)), (41, qj 1)] [(1, some (.cells (Delta.cells a0)))] (F77_u6 n a0) (QB 0 (QT Try.prog D (n + 8) pc77_c40 (QF false pc77_r 0 F77_e))) := by
    unfold F77_u6
    refine SimL.succ (.seq (.rg [(1, qp 1 0), (40, .agg (A4_Field.cells a0.F)), (41, qj 1)] [(1, some (.cells (Delta.cells a0)))] (.rd 1 [(42, qb true)] [] (.thenN (.seq (.condT (by kernel_rfl) (.skip (.thenN (.seq (.block (.sr 5 [(3, qj 1), (4, qp 4 0), (44, .agg [lj a0.F.a1.N, ls a0.F.a1.Text]), (43, qj 1)] [(4, some (.cells [lj a0.F.a1.N, ls a0.F.a1.Text])), (4, some (.cells [lj 0, ls be]))] (.st 1 [(45, .agg [lj a0.F.a1.N, ls a0.F.a1.Text])] [] (.cl 46 true [[]] 70 [Operand.tmp 45] none (fun r7 => qb r7) [.agg [lj a0.F.a1.N, ls a0.F.a1.Text]] (F70_ok n a0.F.a1) (fun r7 => ?_))))))))))))))
    refine SimI.rn 2 [(48, qb (!(r7))), (47, qb (!(r7)))] [] (.split 48 (!(r7)) (by kernel_rfl) ?_ ?_)
    · exact SimI.rd 11 [(59, qb true), (58, .tup []), (57, .tup []), (56, .tup []), (55, .tup []), (54, .tup []), (53, .tup []), (52, .tup []), (51, .tup []), (50, .tup []), (49, .tup [])] [] (.thenN (.condT (by kernel_rfl) (.sr 1 [(2, qb false)] [] (.ret (.blockR (.thenR (.loopR (.blockR (.thenR .fn)))))))))
    · refine SimI.rn 3 [(51, qj 1), (50, .one (li .u8 a0.Mask)), (49, qp 1 1)] [] (.cl 52 true [[], []] 99 [Operand.tmp 50, Operand.tmp 51] (some (48, false)) (fun r8 => qb r8) [.one (li .u8 a0.Mask), qj 1] (F99_ok n a0.Mask 1) (fun r8 => ?_))
      refine SimI.rn 2 [(54, qb (!(r8))), (53, qb (!(r8)))] [] (.split 54 (!(r8)) (by kernel_rfl) ?_ ?_)
      · refine SimI.rn 2 [(56, .agg [lj 0, ls be]), (55, .agg [lj a0.F.a1.N, ls a0.F.a1.Text])] [] (.step ⟨some 57, POp.prim (Prim.bin BinOp.neq 25 false false) [Operand.tmp 55, Operand.tmp 56], some (54, true), []⟩ [(57, qb (!(Field.eqb a0.F.a1 (Field.mk 0 be))))] [] (by kernel_rfl) (pOp_eff (by kernel_rfl) (by kernel_rfl) (eff_prim (by kernel_rfl) (Field_eqn a0.F.a1 (Field.mk 0 be) _ _))) (.rd 2 [(59, qb (!(Field.eqb a0.F.a1 (Field.mk 0 be)))), (58, qb (!(Field.eqb a0.F.a1 (Field.mk 0 be))))] [] (.thenN (.cond (!(Field.eqb a0.F.a1 (Field.mk 0 be))) (by kernel_rfl) ?_ ?_))))
        · exact Sim.sr 1 [(2, qb false)] [] (.ret (.blockR (.thenR (.loopR (.blockR (.thenR .fn))))))
        · refine Sim.skip (.blockN (.thenN (.region0 (.rd 2 [(41, qj 2), (60, qj 2)] [] (.loopN (.pr [1, 40, 41] [1, 4] [] [(1, qp 1 0), (40, .agg (A4_Field.cells a0.F)), (41, qj 2)] [(1, some (.cells (Delta.cells a0)))] ?_))))))
          exact F77_u9_ok n a0
      · refine SimI.rd 5 [(59, qb false), (58, qb false), (57, .tup []), (56, .tup []), (55, .tup [])] [] (.thenN (.condF (by kernel_rfl) (.skip (.blockN (.thenN (.region0 (.rd 2 [(41, qj 2), (60, qj 2)] [] (.loopN (.pr [1, 40, 41] [1, 4] [] [(1, qp 1 0), (40, .agg (A4_Field.cells a0.F)), (41, qj 2)] [(1, some (.cells (Delta.cells a0)))] ?_)))))))))
        exact F77_u9_ok n a0

def F77_j3 (n : Nat) (a0 : Delta) : Option Bool :=
    (F70 n a0.F.a0).bind fun (r4 : Bool) =>
    if !(r4) then
      some false
    else
      (F99 n a0.Mask 0).bind fun (r5 : Bool) =>
      if !(r5) then
        if !(Field.eqb a0.F.a0 (Field.mk 0 ByteArray.empty)) then
          some false
        else
          F77_u6 n a0
      else
        F77_u6 n a0
theorem F77_j3_ok (n : Nat) (a0 : Delta) : Sim Try.prog D (n + 8) pc77_c41 [(1, qp 1 0)] [(1, some (.cells (Delta.cells a0)))] (F77_j3 n a0) (QF false pc77_r 0 F77_e) := by
    unfold F77_j3
    refine Sim.seq (.seq (.rg [(1, qp 1 0)] [(1, some (.cells (Delta.cells a0)))] (.rd 3 [(41, qj 0), (40, .agg (A4_Field.cells a0.F)), (39, qp 1 4)] [] (.thenN (.block (.loop (.succ (.seq (.rg [(1, qp 1 0), (40, .agg (A4_Field.cells a0.F)), (41, qj 0)] [(1, some (.cells (Delta.cells a0)))] (.rd 1 [(42, qb true)] [] (.thenN (.seq (.condT (by kernel_rfl) (.skip (.thenN (.seq (.block (.sr 5 [(3, qj 0), (4, qp 4 0), (44, .agg [lj a0.F.a0.N, ls a0.F.a0.Text]), (43, qj 0)] [(4, some (.cells [lj a0.F.a0.N, ls a0.F.a0.Text])), (4, some (.cells [lj 0, ls be]))] (.st 1 [(45, .agg [lj a0.F.a0.N, ls a0.F.a0.Text])] [] (.cl 46 true [[]] 70 [Operand.tmp 45] none (fun r4 => qb r4) [.agg [lj a0.F.a0.N, ls a0.F.a0.Text]] (F70_ok n a0.F.a0) (fun r4 => ?_)))))))))))))))))))))
    refine SimI.rn 2 [(48, qb (!(r4))), (47, qb (!(r4)))] [] (.split 48 (!(r4)) (by kernel_rfl) ?_ ?_)
    · exact SimI.rd 11 [(59, qb true), (58, .tup []), (57, .tup []), (56, .tup []), (55, .tup []), (54, .tup []), (53, .tup []), (52, .tup []), (51, .tup []), (50, .tup []), (49, .tup [])] [] (.thenN (.condT (by kernel_rfl) (.sr 1 [(2, qb false)] [] (.ret (.blockR (.thenR (.loopR (.blockR (.thenR .fn)))))))))
    · refine SimI.rn 3 [(51, qj 0), (50, .one (li .u8 a0.Mask)), (49, qp 1 1)] [] (.cl 52 true [[], []] 99 [Operand.tmp 50, Operand.tmp 51] (some (48, false)) (fun r5 => qb r5) [.one (li .u8 a0.Mask), qj 0] (F99_ok n a0.Mask 0) (fun r5 => ?_))
      refine SimI.rn 2 [(54, qb (!(r5))), (53, qb (!(r5)))] [] (.split 54 (!(r5)) (by kernel_rfl) ?_ ?_)
      · refine SimI.rn 2 [(56, .agg [lj 0, ls be]), (55, .agg [lj a0.F.a0.N, ls a0.F.a0.Text])] [] (.step ⟨some 57, POp.prim (Prim.bin BinOp.neq 25 false false) [Operand.tmp 55, Operand.tmp 56], some (54, true), []⟩ [(57, qb (!(Field.eqb a0.F.a0 (Field.mk 0 be))))] [] (by kernel_rfl) (pOp_eff (by kernel_rfl) (by kernel_rfl) (eff_prim (by kernel_rfl) (Field_eqn a0.F.a0 (Field.mk 0 be) _ _))) (.rd 2 [(59, qb (!(Field.eqb a0.F.a0 (Field.mk 0 be)))), (58, qb (!(Field.eqb a0.F.a0 (Field.mk 0 be))))] [] (.thenN (.cond (!(Field.eqb a0.F.a0 (Field.mk 0 be))) (by kernel_rfl) ?_ ?_))))
        · exact Sim.sr 1 [(2, qb false)] [] (.ret (.blockR (.thenR (.loopR (.blockR (.thenR .fn))))))
        · refine Sim.skip (.blockN (.thenN (.region0 (.rd 2 [(41, qj 1), (60, qj 1)] [] (.loopN (.pr [1, 40, 41] [1, 4] [] [(1, qp 1 0), (40, .agg (A4_Field.cells a0.F)), (41, qj 1)] [(1, some (.cells (Delta.cells a0)))] ?_))))))
          exact F77_u6_ok n a0
      · refine SimI.rd 5 [(59, qb false), (58, qb false), (57, .tup []), (56, .tup []), (55, .tup [])] [] (.thenN (.condF (by kernel_rfl) (.skip (.blockN (.thenN (.region0 (.rd 2 [(41, qj 1), (60, qj 1)] [] (.loopN (.pr [1, 40, 41] [1, 4] [] [(1, qp 1 0), (40, .agg (A4_Field.cells a0.F)), (41, qj 1)] [(1, some (.cells (Delta.cells a0)))] ?_)))))))))
        exact F77_u6_ok n a0

def F77 (n : Nat) (a0 : Delta) : Option Bool :=
  if decide (a0.ID < 0) then
    some false
  else
    if decide ((1000000 : Int) < a0.ID) then
      some false
    else
      if a0.Mask == 0 then
        some false
      else
        if decide ((31 : Int) < a0.Mask) then
          some false
        else
          if (bitsI .and .u8 a0.Mask 1) == 0 then
            if !(Point.eqb a0.At (Point.mk 0 0)) then
              some false
            else
              (F67 n a0.At).bind fun (r1 : Bool) =>
              if !(r1) then
                some false
              else
                F77_j3 n a0
          else
            (F67 n a0.At).bind fun (r2 : Bool) =>
            if !(r2) then
              some false
            else
              F77_j3 n a0
theorem F77_ok (n : Nat) (a0 : Delta) : ∀ r, F77 n a0 = some r → D 77 [.agg (Delta.cells a0)] [] = some (F77_e r) := by
  refine fn_to (D := D) (n := n + 8) (nt := 61) (rs := pc77_r) (c := pc77_c44) (L := [(0, .agg (Delta.cells a0))]) (M := []) (k := 0) rfl rfl rfl rfl rfl rfl rfl ?_
  unfold F77
  refine Sim.sr 2 [(2, qb false), (1, qp 1 0)] [(1, some (.cells (Delta.cells a0)))] (.seq (.st 4 [(8, qb (decide (a0.ID < 0))), (7, qb (decide (a0.ID < 0))), (6, qj a0.ID), (5, qp 1 0)] [] (.split 8 (decide (a0.ID < 0)) (by kernel_rfl) ?_ ?_)))
  · exact SimI.rd 14 [(22, qb true), (21, .tup []), (20, .tup []), (19, .tup []), (18, qb true), (17, qb true), (16, .tup []), (15, .tup []), (14, .tup []), (13, qb true), (12, qb true), (11, .tup []), (10, .tup []), (9, .tup [])] [] (.thenN (.condT (by kernel_rfl) (.sr 1 [(2, qb false)] [] (.ret (.thenR .fn)))))
  · refine SimI.rn 5 [(13, qb (decide ((1000000 : Int) < a0.ID))), (12, qb (decide ((1000000 : Int) < a0.ID))), (11, qb (decide ((1000000 : Int) < a0.ID))), (10, qj a0.ID), (9, qp 1 0)] [] (.split 13 (decide ((1000000 : Int) < a0.ID)) (by kernel_rfl) ?_ ?_)
    · exact SimI.rd 9 [(22, qb true), (21, .tup []), (20, .tup []), (19, .tup []), (18, qb true), (17, qb true), (16, .tup []), (15, .tup []), (14, .tup [])] [] (.thenN (.condT (by kernel_rfl) (.sr 1 [(2, qb false)] [] (.ret (.thenR .fn)))))
    · refine SimI.rn 5 [(18, qb (a0.Mask == 0)), (17, qb (a0.Mask == 0)), (16, qb (a0.Mask == 0)), (15, .one (li .u8 a0.Mask)), (14, qp 1 1)] [] (.split 18 (a0.Mask == 0) (by kernel_rfl) ?_ ?_)
      · exact SimI.rd 4 [(22, qb true), (21, .tup []), (20, .tup []), (19, .tup [])] [] (.thenN (.condT (by kernel_rfl) (.sr 1 [(2, qb false)] [] (.ret (.thenR .fn)))))
      · refine SimI.rd 4 [(22, qb (decide ((31 : Int) < a0.Mask))), (21, qb (decide ((31 : Int) < a0.Mask))), (20, .one (li .u8 a0.Mask)), (19, qp 1 1)] [] (.thenN (.cond (decide ((31 : Int) < a0.Mask)) (by kernel_rfl) ?_ ?_))
        · exact Sim.sr 1 [(2, qb false)] [] (.ret (.thenR .fn))
        · refine Sim.skip (.thenN (.seq (.st 5 [(27, qb ((bitsI .and .u8 a0.Mask 1) == 0)), (26, qb ((bitsI .and .u8 a0.Mask 1) == 0)), (25, .one (li .u8 (bitsI .and .u8 a0.Mask 1))), (24, .one (li .u8 a0.Mask)), (23, qp 1 1)] [] (.split 27 ((bitsI .and .u8 a0.Mask 1) == 0) (by kernel_rfl) ?_ ?_))))
          · refine SimI.rn 3 [(30, .agg [lj 0, lj 0]), (29, .agg [lj a0.At.X, lj a0.At.Y]), (28, qp 1 2)] [] (.step ⟨some 31, POp.prim (Prim.bin BinOp.neq 23 false false) [Operand.tmp 29, Operand.tmp 30], some (27, true), []⟩ [(31, qb (!(Point.eqb a0.At (Point.mk 0 0))))] [] (by kernel_rfl) (pOp_eff (by kernel_rfl) (by kernel_rfl) (eff_prim (by kernel_rfl) (Point_eqn a0.At (Point.mk 0 0) _ _))) (.rn 2 [(33, qb (!(Point.eqb a0.At (Point.mk 0 0)))), (32, qb (!(Point.eqb a0.At (Point.mk 0 0))))] [] (.split 33 (!(Point.eqb a0.At (Point.mk 0 0))) (by kernel_rfl) ?_ ?_)))
            · exact SimI.rd 5 [(38, qb true), (37, .tup []), (36, .tup []), (35, .tup []), (34, .tup [])] [] (.thenN (.condT (by kernel_rfl) (.sr 1 [(2, qb false)] [] (.ret (.thenR .fn)))))
            · refine SimI.rn 2 [(35, .agg [lj a0.At.X, lj a0.At.Y]), (34, qp 1 2)] [] (.cl 36 true [[]] 67 [Operand.tmp 35] (some (33, false)) (fun r1 => qb r1) [.agg [lj a0.At.X, lj a0.At.Y]] (F67_ok n a0.At) (fun r1 => ?_))
              refine SimI.rd 2 [(38, qb (!(r1))), (37, qb (!(r1)))] [] (.thenN (.cond (!(r1)) (by kernel_rfl) ?_ ?_))
              · exact Sim.sr 1 [(2, qb false)] [] (.ret (.thenR .fn))
              · refine Sim.skip (.thenN (.pr [1] [1] [] [(1, qp 1 0)] [(1, some (.cells (Delta.cells a0)))] ?_))
                exact F77_j3_ok n a0
          · refine SimI.rn 8 [(35, .agg [lj a0.At.X, lj a0.At.Y]), (34, qp 1 2), (33, qb false), (32, qb false), (31, .tup []), (30, .tup []), (29, .tup []), (28, .tup [])] [] (.cl 36 true [[]] 67 [Operand.tmp 35] (some (33, false)) (fun r2 => qb r2) [.agg [lj a0.At.X, lj a0.At.Y]] (F67_ok n a0.At) (fun r2 => ?_))
            refine SimI.rd 2 [(38, qb (!(r2))), (37, qb (!(r2)))] [] (.thenN (.cond (!(r2)) (by kernel_rfl) ?_ ?_))
            · exact Sim.sr 1 [(2, qb false)] [] (.ret (.thenR .fn))
            · refine Sim.skip (.thenN (.pr [1] [1] [] [(1, qp 1 0)] [(1, some (.cells (Delta.cells a0)))] ?_))
              exact F77_j3_ok n a0


-- 39: vedette/event.Is
def F39_e : Bool → PV × List Ob := fun r => (.one (lb r), [])
def F39 (n : Nat) (a0 : Event) : Option Bool :=
  if a0.Kind == 1 then
    (F24 n a0.Thing).bind fun (r1 : Bool) =>
    if r1 then
      if a0.ID == a0.Thing.ID then
        some (Delta.eqb a0.Delta (Delta.mk 0 0 (Point.mk 0 0) (A4.mk (Field.mk 0 ByteArray.empty) (Field.mk 0 ByteArray.empty) (Field.mk 0 ByteArray.empty) (Field.mk 0 ByteArray.empty))))
      else
        some false
    else
      some false
  else
    if a0.Kind == 2 then
      (F77 n a0.Delta).bind fun (r2 : Bool) =>
      if r2 then
        if a0.ID == a0.Delta.ID then
          some (Thing.eqb a0.Thing (Thing.mk 0 (Point.mk 0 0) (A4.mk (Field.mk 0 ByteArray.empty) (Field.mk 0 ByteArray.empty) (Field.mk 0 ByteArray.empty) (Field.mk 0 ByteArray.empty))))
        else
          some false
      else
        some false
    else
      if a0.Kind == 3 then
        if decide ((0 : Int) ≤ a0.ID) then
          if decide (a0.ID ≤ 1000000) then
            if Thing.eqb a0.Thing (Thing.mk 0 (Point.mk 0 0) (A4.mk (Field.mk 0 ByteArray.empty) (Field.mk 0 ByteArray.empty) (Field.mk 0 ByteArray.empty) (Field.mk 0 ByteArray.empty))) then
              some (Delta.eqb a0.Delta (Delta.mk 0 0 (Point.mk 0 0) (A4.mk (Field.mk 0 ByteArray.empty) (Field.mk 0 ByteArray.empty) (Field.mk 0 ByteArray.empty) (Field.mk 0 ByteArray.empty))))
            else
              some false
          else
            some false
        else
          some false
      else
        some false
theorem F39_ok (n : Nat) (a0 : Event) : ∀ r, F39 n a0 = some r → D 39 [.agg (Event.cells a0)] [] = some (F39_e r) := by
  refine fn_to (D := D) (n := n + 8) (nt := 63) (rs := pc39_r) (c := pc39_c30) (L := [(0, .agg (Event.cells a0))]) (M := []) (k := 0) rfl rfl rfl rfl rfl rfl rfl ?_
  unfold F39
  refine Sim.sr 2 [(2, qb false), (1, qp 1 0)] [(1, some (.cells (Event.cells a0)))] (.st 3 [(7, .agg [lj 0, lj 0, lj 0, lj 0, ls be, lj 0, ls be, lj 0, ls be, lj 0, ls be]), (6, .agg (Thing.cells a0.Thing)), (5, qp 1 2)] [] (.step ⟨some 8, POp.prim (Prim.bin BinOp.eql 28 false false) [Operand.tmp 6, Operand.tmp 7], none, [(6, Hint.imm), (7, Hint.imm)]⟩ [(8, qb (Thing.eqb a0.Thing (Thing.mk 0 (Point.mk 0 0) (A4.mk (Field.mk 0 be) (Field.mk 0 be) (Field.mk 0 be) (Field.mk 0 be)))))] [] (by kernel_rfl) (pOp_eff (by kernel_rfl) (by kernel_rfl) (eff_prim (by kernel_rfl) (Thing_eql a0.Thing (Thing.mk 0 (Point.mk 0 0) (A4.mk (Field.mk 0 be) (Field.mk 0 be) (Field.mk 0 be) (Field.mk 0 be))) _ _))) (.rn 3 [(11, .agg [lj 0, li .u8 0, lj 0, lj 0, lj 0, ls be, lj 0, ls be, lj 0, ls be, lj 0, ls be]), (10, .agg (Delta.cells a0.Delta)), (9, qp 1 13)] [] (.step ⟨some 12, POp.prim (Prim.bin BinOp.eql 35 false false) [Operand.tmp 10, Operand.tmp 11], none, [(10, Hint.imm), (11, Hint.imm)]⟩ [(12, qb (Delta.eqb a0.Delta (Delta.mk 0 0 (Point.mk 0 0) (A4.mk (Field.mk 0 be) (Field.mk 0 be) (Field.mk 0 be) (Field.mk 0 be)))))] [] (by kernel_rfl) (pOp_eff (by kernel_rfl) (by kernel_rfl) (eff_prim (by kernel_rfl) (Delta_eql a0.Delta (Delta.mk 0 0 (Point.mk 0 0) (A4.mk (Field.mk 0 be) (Field.mk 0 be) (Field.mk 0 be) (Field.mk 0 be))) _ _))) (.rd 2 [(4, qb (Delta.eqb a0.Delta (Delta.mk 0 0 (Point.mk 0 0) (A4.mk (Field.mk 0 be) (Field.mk 0 be) (Field.mk 0 be) (Field.mk 0 be))))), (3, qb (Thing.eqb a0.Thing (Thing.mk 0 (Point.mk 0 0) (A4.mk (Field.mk 0 be) (Field.mk 0 be) (Field.mk 0 be) (Field.mk 0 be)))))] [] (.thenN (.seq (.sr 2 [(14, qj a0.Kind), (13, qp 1 0)] [] (.block (.sr 2 [(15, qb (a0.Kind == 1)), (16, qb (a0.Kind == 1))] [] (.cond (a0.Kind == 1) (by kernel_rfl) ?_ ?_)))))))))))
  · refine Sim.st 2 [(18, .agg (Thing.cells a0.Thing)), (17, qp 1 2)] [] (.cl 19 true [[]] 24 [Operand.tmp 18] none (fun r1 => qb r1) [.agg (Thing.cells a0.Thing)] (F24_ok n a0.Thing) (fun r1 => ?_))
    refine SimI.rn 1 [(20, qb r1)] [] (.split 20 r1 (by kernel_rfl) ?_ ?_)
    · refine SimI.rn 8 [(28, qb (a0.ID == a0.Thing.ID)), (27, qb (a0.ID == a0.Thing.ID)), (26, qb (a0.ID == a0.Thing.ID)), (25, qj a0.Thing.ID), (24, qp 1 2), (23, qp 1 2), (22, qj a0.ID), (21, qp 1 1)] [] (.split 28 (a0.ID == a0.Thing.ID) (by kernel_rfl) ?_ ?_)
      · exact SimI.rd 3 [(2, qb (Delta.eqb a0.Delta (Delta.mk 0 0 (Point.mk 0 0) (A4.mk (Field.mk 0 be) (Field.mk 0 be) (Field.mk 0 be) (Field.mk 0 be))))), (30, qb (Delta.eqb a0.Delta (Delta.mk 0 0 (Point.mk 0 0) (A4.mk (Field.mk 0 be) (Field.mk 0 be) (Field.mk 0 be) (Field.mk 0 be))))), (29, qb (Delta.eqb a0.Delta (Delta.mk 0 0 (Point.mk 0 0) (A4.mk (Field.mk 0 be) (Field.mk 0 be) (Field.mk 0 be) (Field.mk 0 be)))))] [] (.thenN (.ret (.blockR (.thenR .fn))))
      · exact SimI.rd 3 [(2, qb false), (30, qb false), (29, .tup [])] [] (.thenN (.ret (.blockR (.thenR .fn))))
    · exact SimI.rd 11 [(2, qb false), (30, qb false), (29, .tup []), (28, qb false), (27, qb false), (26, .tup []), (25, .tup []), (24, .tup []), (23, .tup []), (22, .tup []), (21, .tup [])] [] (.thenN (.ret (.blockR (.thenR .fn))))
  · refine Sim.sr 2 [(31, qb (a0.Kind == 2)), (32, qb (a0.Kind == 2))] [] (.cond (a0.Kind == 2) (by kernel_rfl) ?_ ?_)
    · refine Sim.st 2 [(34, .agg (Delta.cells a0.Delta)), (33, qp 1 13)] [] (.cl 35 true [[]] 77 [Operand.tmp 34] none (fun r2 => qb r2) [.agg (Delta.cells a0.Delta)] (F77_ok n a0.Delta) (fun r2 => ?_))
      refine SimI.rn 1 [(36, qb r2)] [] (.split 36 r2 (by kernel_rfl) ?_ ?_)
      · refine SimI.rn 8 [(44, qb (a0.ID == a0.Delta.ID)), (43, qb (a0.ID == a0.Delta.ID)), (42, qb (a0.ID == a0.Delta.ID)), (41, qj a0.Delta.ID), (40, qp 1 13), (39, qp 1 13), (38, qj a0.ID), (37, qp 1 1)] [] (.split 44 (a0.ID == a0.Delta.ID) (by kernel_rfl) ?_ ?_)
        · exact SimI.rd 3 [(2, qb (Thing.eqb a0.Thing (Thing.mk 0 (Point.mk 0 0) (A4.mk (Field.mk 0 be) (Field.mk 0 be) (Field.mk 0 be) (Field.mk 0 be))))), (46, qb (Thing.eqb a0.Thing (Thing.mk 0 (Point.mk 0 0) (A4.mk (Field.mk 0 be) (Field.mk 0 be) (Field.mk 0 be) (Field.mk 0 be))))), (45, qb (Thing.eqb a0.Thing (Thing.mk 0 (Point.mk 0 0) (A4.mk (Field.mk 0 be) (Field.mk 0 be) (Field.mk 0 be) (Field.mk 0 be)))))] [] (.thenN (.ret (.blockR (.thenR .fn))))
        · exact SimI.rd 3 [(2, qb false), (46, qb false), (45, .tup [])] [] (.thenN (.ret (.blockR (.thenR .fn))))
      · exact SimI.rd 11 [(2, qb false), (46, qb false), (45, .tup []), (44, qb false), (43, qb false), (42, .tup []), (41, .tup []), (40, .tup []), (39, .tup []), (38, .tup []), (37, .tup [])] [] (.thenN (.ret (.blockR (.thenR .fn))))
    · refine Sim.sr 2 [(47, qb (a0.Kind == 3)), (48, qb (a0.Kind == 3))] [] (.cond (a0.Kind == 3) (by kernel_rfl) ?_ ?_)
      · refine Sim.st 4 [(52, qb (decide ((0 : Int) ≤ a0.ID))), (51, qb (decide ((0 : Int) ≤ a0.ID))), (50, qj a0.ID), (49, qp 1 1)] [] (.split 52 (decide ((0 : Int) ≤ a0.ID)) (by kernel_rfl) ?_ ?_)
        · refine SimI.rn 5 [(57, qb (decide (a0.ID ≤ 1000000))), (56, qb (decide (a0.ID ≤ 1000000))), (55, qb (decide (a0.ID ≤ 1000000))), (54, qj a0.ID), (53, qp 1 1)] [] (.split 57 (decide (a0.ID ≤ 1000000)) (by kernel_rfl) ?_ ?_)
          · refine SimI.rn 3 [(60, qb (Thing.eqb a0.Thing (Thing.mk 0 (Point.mk 0 0) (A4.mk (Field.mk 0 be) (Field.mk 0 be) (Field.mk 0 be) (Field.mk 0 be))))), (59, qb (Thing.eqb a0.Thing (Thing.mk 0 (Point.mk 0 0) (A4.mk (Field.mk 0 be) (Field.mk 0 be) (Field.mk 0 be) (Field.mk 0 be))))), (58, qb (Thing.eqb a0.Thing (Thing.mk 0 (Point.mk 0 0) (A4.mk (Field.mk 0 be) (Field.mk 0 be) (Field.mk 0 be) (Field.mk 0 be)))))] [] (.split 60 (Thing.eqb a0.Thing (Thing.mk 0 (Point.mk 0 0) (A4.mk (Field.mk 0 be) (Field.mk 0 be) (Field.mk 0 be) (Field.mk 0 be)))) (by kernel_rfl) ?_ ?_)
            · exact SimI.rd 3 [(2, qb (Delta.eqb a0.Delta (Delta.mk 0 0 (Point.mk 0 0) (A4.mk (Field.mk 0 be) (Field.mk 0 be) (Field.mk 0 be) (Field.mk 0 be))))), (62, qb (Delta.eqb a0.Delta (Delta.mk 0 0 (Point.mk 0 0) (A4.mk (Field.mk 0 be) (Field.mk 0 be) (Field.mk 0 be) (Field.mk 0 be))))), (61, qb (Delta.eqb a0.Delta (Delta.mk 0 0 (Point.mk 0 0) (A4.mk (Field.mk 0 be) (Field.mk 0 be) (Field.mk 0 be) (Field.mk 0 be)))))] [] (.thenN (.ret (.blockR (.thenR .fn))))
            · exact SimI.rd 3 [(2, qb false), (62, qb false), (61, .tup [])] [] (.thenN (.ret (.blockR (.thenR .fn))))
          · exact SimI.rd 6 [(2, qb false), (62, qb false), (61, .tup []), (60, qb false), (59, qb false), (58, .tup [])] [] (.thenN (.ret (.blockR (.thenR .fn))))
        · exact SimI.rd 11 [(2, qb false), (62, qb false), (61, .tup []), (60, qb false), (59, qb false), (58, .tup []), (57, qb false), (56, qb false), (55, .tup []), (54, .tup []), (53, .tup [])] [] (.thenN (.ret (.blockR (.thenR .fn))))
      · exact Sim.skip (.blockN (.thenN (.sr 1 [(2, qb false)] [] (.ret .fn))))


-- 111: cmp.isNaN[int]
def F111_e : Bool → PV × List Ob := fun r => (.one (lb r), [])
def F111 (n : Nat) (a0 : Int) : Option Bool :=
  some (a0 != a0)
theorem F111_ok (n : Nat) (a0 : Int) : ∀ r, F111 n a0 = some r → D 111 [.one (li .i64 a0)] [] = some (F111_e r) := by
  refine fn_to (D := D) (n := n + 8) (nt := 6) (rs := pc111_r) (c := pc111_c5) (L := [(0, qj a0)]) (M := []) (k := 0) rfl rfl rfl rfl rfl rfl rfl ?_
  unfold F111
  exact Sim.sr 1 [(2, qb false)] [] (.sr 4 [(2, qb (a0 != a0)), (5, qb (a0 != a0)), (4, qj a0), (3, qj a0)] [] (.ret .fn))


-- 86: cmp.Compare[int]
def F86_e : Int → PV × List Ob := fun r => (.one (li .i64 r), [])
def F86 (n : Nat) (a0 : Int) (a1 : Int) : Option Int :=
  (F111 n a0).bind fun (r1 : Bool) =>
  (F111 n a1).bind fun (r2 : Bool) =>
  if r1 then
    if r2 then
      some 0
    else
      some (-1)
  else
    if r2 then
      some 1
    else
      if decide (a0 < a1) then
        some (-1)
      else
        if decide (a1 < a0) then
          some 1
        else
          some 0
theorem F86_ok (n : Nat) (a0 : Int) (a1 : Int) : ∀ r, F86 n a0 a1 = some r → D 86 [.one (li .i64 a0), .one (li .i64 a1)] [] = some (F86_e r) := by
  refine fn_to (D := D) (n := n + 8) (nt := 20) (rs := pc86_r) (c := pc86_c49) (L := [(0, qj a0), (1, qj a1)]) (M := []) (k := 0) rfl rfl rfl rfl rfl rfl rfl ?_
  unfold F86
  refine Sim.sr 1 [(4, qj 0)] [] (.st 1 [(7, qj a0)] [] (.cl 8 true [[]] 111 [Operand.tmp 7] none (fun r1 => qb r1) [qj a0] (F111_ok n a0) (fun r1 => ?_)))
  refine SimI.rd 1 [(5, qb r1)] [] (.thenN (.st 1 [(9, qj a1)] [] (.cl 10 true [[]] 111 [Operand.tmp 9] none (fun r2 => qb r2) [qj a1] (F111_ok n a1) (fun r2 => ?_))))
  refine SimI.rd 1 [(6, qb r2)] [] (.thenN (.seq (.sr 1 [(11, qb r1)] [] (.cond r1 (by kernel_rfl) ?_ ?_))))
  · refine Sim.seq (.sr 1 [(12, qb r2)] [] (.cond r2 (by kernel_rfl) ?_ ?_))
    · exact Sim.sr 1 [(4, qj 0)] [] (.ret (.thenR (.thenR .fn)))
    · exact Sim.skip (.thenN (.sr 1 [(4, qj (-1))] [] (.ret (.thenR .fn))))
  · refine Sim.skip (.thenN (.seq (.sr 1 [(13, qb r2)] [] (.cond r2 (by kernel_rfl) ?_ ?_))))
    · exact Sim.sr 1 [(4, qj 1)] [] (.ret (.thenR .fn))
    · refine Sim.skip (.thenN (.seq (.sr 3 [(16, qb (decide (a0 < a1))), (15, qj a1), (14, qj a0)] [] (.cond (decide (a0 < a1)) (by kernel_rfl) ?_ ?_))))
      · exact Sim.sr 1 [(4, qj (-1))] [] (.ret (.thenR .fn))
      · refine Sim.skip (.thenN (.seq (.sr 3 [(19, qb (decide (a1 < a0))), (18, qj a1), (17, qj a0)] [] (.cond (decide (a1 < a0)) (by kernel_rfl) ?_ ?_))))
        · exact Sim.sr 1 [(4, qj 1)] [] (.ret (.thenR .fn))
        · exact Sim.skip (.thenN (.sr 1 [(4, qj 0)] [] (.ret .fn)))


-- 85: vedette/event.Apply$1
def F85_e : Int → PV × List Ob := fun r => (.one (li .i64 r), [])
def F85 (n : Nat) (a0 : Thing) (a1 : Int) : Option Int :=
  (F86 n a0.ID a1).bind fun (r1 : Int) =>
  some r1
theorem F85_ok (n : Nat) (a0 : Thing) (a1 : Int) : ∀ r, F85 n a0 a1 = some r → D 85 [.agg (Thing.cells a0), .one (li .i64 a1)] [] = some (F85_e r) := by
  refine fn_to (D := D) (n := n + 8) (nt := 9) (rs := pc85_r) (c := pc85_c5) (L := [(0, .agg (Thing.cells a0)), (1, qj a1)]) (M := []) (k := 0) rfl rfl rfl rfl rfl rfl rfl ?_
  unfold F85
  refine Sim.sr 2 [(4, qj 0), (2, qp 2 0)] [(2, some (.cells (Thing.cells a0)))] (.st 3 [(7, qj a1), (6, qj a0.ID), (5, qp 2 0)] [] (.cl 8 true [[], []] 86 [Operand.tmp 6, Operand.tmp 7] none (fun r1 => qj r1) [qj a0.ID, qj a1] (F86_ok n a0.ID a1) (fun r1 => ?_)))
  exact SimI.rd 1 [(4, qj r1)] [] (.thenN (.ret .fn))


-- 84: slices.BinarySearchFunc[[]vedette/api.Thing,vedette/api.Thing,int]
def F84s0_e (a0 : (List Thing)) (a1 : Int) : (Int × Bool) → PV × List Ob := fun r => (.tup [.one (li .i64 r.1), .one (lb r.2)], [])
def F84s0_l7 (n : Nat) (a0 : (List Thing)) (a1 : Int) : Nat → Int → Int → Option (Int × Bool)
  | 0, _, _ => none
  | m + 1, i5, i6 =>
    if decide (i5 < i6) then
      (ix a0 (IntKind.wrap .i64 (shrI .u64 (IntKind.wrap .u64 (IntKind.wrap .i64 (i5 + i6))) 1))).bind fun (x8 : Thing) =>
      (F85 n x8 a1).bind fun (r9 : Int) =>
      if decide (r9 < 0) then
        (F84s0_l7 n a0 a1 m) (IntKind.wrap .i64 (IntKind.wrap .i64 (shrI .u64 (IntKind.wrap .u64 (IntKind.wrap .i64 (i5 + i6))) 1) + 1)) i6
      else
        (F84s0_l7 n a0 a1 m) i5 (IntKind.wrap .i64 (shrI .u64 (IntKind.wrap .u64 (IntKind.wrap .i64 (i5 + i6))) 1))
    else
      if decide (i5 < ((a0).length : Int)) then
        (ix a0 i5).bind fun (x10 : Thing) =>
        (F85 n x10 a1).bind fun (r11 : Int) =>
        some (i5, (r11 == 0))
      else
        some (i5, false)
theorem F84s0_l7_ok (n : Nat) (a0 : (List Thing)) (a1 : Int) : ∀ (m : Nat) (i5 : Int) (i6 : Int), SimL Try.prog D (n + 8) m pc84_c17 [(0, .one (vw Thing.cod a0)), (1, qj a1), (2, .one (.val (.func (.func 85) #[] #[]))), (8, qj ((a0).length : Int)), (9, qj i5), (10, qj i6)] [] (F84s0_l7 n a0 a1 m i5 i6) (QB 0 (QT Try.prog D (n + 8) pc84_c22 (QF false pc84_r 0 (F84s0_e a0 a1)))) := by
  intro m_l7
  induction m_l7 with
  | zero => intro i5 i6; exact SimL.zero'  rfl
  | succ m_l7 ih_l7 =>
    intro i5 i6
    refine SimL.succ ?_
    unfold F84s0_l7
    refine Sim.seq (.seq (.rg [(0, .one (vw Thing.cod a0)), (1, qj a1), (2, .one (.val (.func (.func 85) #[] #[]))), (8, qj ((a0).length : Int)), (9, qj i5), (10, qj i6)] [] (.rd 3 [(17, qb (decide (i5 < i6))), (16, qj i6), (15, qj i5)] [] (.thenN (.cond (decide (i5 < i6)) (by kernel_rfl) ?_ ?_)))))
    · refine Sim.skip (.thenN (.block (.sr 7 [(11, qj (IntKind.wrap .i64 (shrI .u64 (IntKind.wrap .u64 (IntKind.wrap .i64 (i5 + i6))) 1))), (23, qj (IntKind.wrap .i64 (shrI .u64 (IntKind.wrap .u64 (IntKind.wrap .i64 (i5 + i6))) 1))), (22, .one (li .u64 (shrI .u64 (IntKind.wrap .u64 (IntKind.wrap .i64 (i5 + i6))) 1))), (21, .one (li .u64 (IntKind.wrap .u64 (IntKind.wrap .i64 (i5 + i6))))), (20, qj (IntKind.wrap .i64 (i5 + i6))), (19, qj i6), (18, qj i5)] [] (.st 3 [(26, qj (IntKind.wrap .i64 (shrI .u64 (IntKind.wrap .u64 (IntKind.wrap .i64 (i5 + i6))) 1))), (25, .one (vw Thing.cod a0)), (24, .one (.val (.func (.func 85) #[] #[])))] [] (.bind (og := ix a0 (IntKind.wrap .i64 (shrI .u64 (IntKind.wrap .u64 (IntKind.wrap .i64 (i5 + i6))) 1))) ⟨some 27, POp.iaddrS 11 (Operand.tmp 25) (Operand.tmp 26), none, []⟩ (fun x8 => [(27, .one (.eptr (Thing.cod.enc x8) 0))]) (fun x8 => []) (by kernel_rfl) (fun x8 hr => pOp_eff (by kernel_rfl) (by kernel_rfl) (eff_idx (c := Thing.cod) (l := a0) (k := .i64) (n := IntKind.wrap .i64 (shrI .u64 (IntKind.wrap .u64 (IntKind.wrap .i64 (i5 + i6))) 1)) (by kernel_rfl) (by kernel_rfl) (by kernel_rfl) hr)) (fun x8 => ?_))))))
      refine SimI.rn 2 [(29, qj a1), (28, .agg (Thing.cells x8))] [] (.bind (og := F85 n x8 a1) ⟨some 30, POp.callv true [[], []] (Operand.tmp 24) [Operand.tmp 28, Operand.tmp 29], none, []⟩ (fun r9 => [(30, qj r9)]) (fun r9 => []) (by kernel_rfl) (fun r9 hr => pOp_eff (by kernel_rfl) (by kernel_rfl) (eff_callvv (by kernel_rfl) (ARGS := [.agg (Thing.cells x8), qj a1]) (by kernel_rfl) (args_clean (by kernel_rfl) (args_clean (by kernel_rfl) args_nil)) (F85_ok n x8 a1 r9 hr) (by kernel_rfl))) (fun r9 => ?_))
      refine SimI.rd 1 [(31, qb (decide (r9 < 0)))] [] (.thenN (.cond (decide (r9 < 0)) (by kernel_rfl) ?_ ?_))
      · refine Sim.region0 (.rd 3 [(9, qj (IntKind.wrap .i64 (IntKind.wrap .i64 (shrI .u64 (IntKind.wrap .u64 (IntKind.wrap .i64 (i5 + i6))) 1) + 1))), (33, qj (IntKind.wrap .i64 (IntKind.wrap .i64 (shrI .u64 (IntKind.wrap .u64 (IntKind.wrap .i64 (i5 + i6))) 1) + 1))), (32, qj (IntKind.wrap .i64 (shrI .u64 (IntKind.wrap .u64 (IntKind.wrap .i64 (i5 + i6))) 1)))] [] (.blockN (.loopN (.pr [0, 1, 2, 8, 9, 10] [] [] [(0, .one (vw Thing.cod a0)), (1, qj a1), (2, .one (.val (.func (.func 85) #[] #[]))), (8, qj ((a0).length : Int)), (9, qj (IntKind.wrap .i64 (IntKind.wrap .i64 (shrI .u64 (IntKind.wrap .u64 (IntKind.wrap .i64 (i5 + i6))) 1) + 1))), (10, qj i6)] [] ?_))))
        exact ih_l7 (IntKind.wrap .i64 (IntKind.wrap .i64 (shrI .u64 (IntKind.wrap .u64 (IntKind.wrap .i64 (i5 + i6))) 1) + 1)) i6
      · refine Sim.region0 (.rd 2 [(10, qj (IntKind.wrap .i64 (shrI .u64 (IntKind.wrap .u64 (IntKind.wrap .i64 (i5 + i6))) 1))), (34, qj (IntKind.wrap .i64 (shrI .u64 (IntKind.wrap .u64 (IntKind.wrap .i64 (i5 + i6))) 1)))] [] (.blockN (.loopN (.pr [0, 1, 2, 8, 9, 10] [] [] [(0, .one (vw Thing.cod a0)), (1, qj a1), (2, .one (.val (.func (.func 85) #[] #[]))), (8, qj ((a0).length : Int)), (9, qj i5), (10, qj (IntKind.wrap .i64 (shrI .u64 (IntKind.wrap .u64 (IntKind.wrap .i64 (i5 + i6))) 1)))] [] ?_))))
        exact ih_l7 i5 (IntKind.wrap .i64 (shrI .u64 (IntKind.wrap .u64 (IntKind.wrap .i64 (i5 + i6))) 1))
    · refine Sim.exit (.thenX (.loopX (.blockX (.thenN (.st 5 [(39, qb (decide (i5 < ((a0).length : Int)))), (38, qb (decide (i5 < ((a0).length : Int)))), (37, qj ((a0).length : Int)), (36, qj i5), (35, qj i5)] [] (.split 39 (decide (i5 < ((a0).length : Int))) (by kernel_rfl) ?_ ?_))))))
      · refine SimI.rn 3 [(42, qj i5), (41, .one (vw Thing.cod a0)), (40, .one (.val (.func (.func 85) #[] #[])))] [] (.bind (og := ix a0 i5) ⟨some 43, POp.iaddrS 11 (Operand.tmp 41) (Operand.tmp 42), some (39, true), []⟩ (fun x10 => [(43, .one (.eptr (Thing.cod.enc x10) 0))]) (fun x10 => []) (by kernel_rfl) (fun x10 hr => pOp_eff (by kernel_rfl) (by kernel_rfl) (eff_idx (c := Thing.cod) (l := a0) (k := .i64) (n := i5) (by kernel_rfl) (by kernel_rfl) (by kernel_rfl) hr)) (fun x10 => ?_))
        refine SimI.rn 2 [(45, qj a1), (44, .agg (Thing.cells x10))] [] (.bind (og := F85 n x10 a1) ⟨some 46, POp.callv true [[], []] (Operand.tmp 40) [Operand.tmp 44, Operand.tmp 45], some (39, true), []⟩ (fun r11 => [(46, qj r11)]) (fun r11 => []) (by kernel_rfl) (fun r11 hr => pOp_eff (by kernel_rfl) (by kernel_rfl) (eff_callvv (by kernel_rfl) (ARGS := [.agg (Thing.cells x10), qj a1]) (by kernel_rfl) (args_clean (by kernel_rfl) (args_clean (by kernel_rfl) args_nil)) (F85_ok n x10 a1 r11 hr) (by kernel_rfl))) (fun r11 => ?_))
        exact SimI.rd 4 [(7, qb (r11 == 0)), (6, qj i5), (48, qb (r11 == 0)), (47, qb (r11 == 0))] [] (.thenN (.ret .fn))
      · exact SimI.rd 11 [(7, qb false), (6, qj i5), (48, qb false), (47, .tup []), (46, .tup []), (45, .tup []), (44, .tup []), (43, .tup []), (42, .tup []), (41, .tup []), (40, .tup [])] [] (.thenN (.ret .fn))

def F84s0 (n : Nat) (a0 : (List Thing)) (a1 : Int) : Option (Int × Bool) :=
  F84s0_l7 n a0 a1 (n + 8) 0 ((a0).length : Int)
theorem F84s0_ok (n : Nat) (a0 : (List Thing)) (a1 : Int) : ∀ r, F84s0 n a0 a1 = some r → D 84 [.one (vw Thing.cod a0), .one (li .i64 a1), .one (.val (.func (.func 85) #[] #[]))] [] = some ((F84s0_e a0 a1) r) := by
  refine fn_to (D := D) (n := n + 8) (nt := 49) (rs := pc84_r) (c := pc84_c26) (L := [(0, .one (vw Thing.cod a0)), (1, qj a1), (2, .one (.val (.func (.func 85) #[] #[])))]) (M := []) (k := 0) rfl rfl rfl rfl rfl rfl rfl ?_
  unfold F84s0
  refine Sim.sr 2 [(7, qb false), (6, qj 0)] [] (.sr 3 [(8, qj ((a0).length : Int)), (13, qj ((a0).length : Int)), (12, .one (vw Thing.cod a0))] [] (.sr 3 [(10, qj ((a0).length : Int)), (9, qj 0), (14, qj ((a0).length : Int))] [] (.seq (.block (.loop (.pr [0, 1, 2, 8, 9, 10] [] [] [(0, .one (vw Thing.cod a0)), (1, qj a1), (2, .one (.val (.func (.func 85) #[] #[]))), (8, qj ((a0).length : Int)), (9, qj 0), (10, qj ((a0).length : Int))] [] ?_))))))
  exact F84s0_l7_ok n a0 a1 (n + 8) 0 ((a0).length : Int)


-- 88: vedette/fields.Apply
def F88_e : Thing → PV × List Ob := fun r => (.agg (Thing.cells r), [])
def F88_u14 (n : Nat) (g13 : Thing) : Option Thing :=
    some g13
theorem F88_u14_ok (n : Nat) (a1 : Delta) (g13 : Thing) : SimL Try.prog D (n + 8) (n + 4) pc88_c23 [(2, qp 2 0), (3, qp 3 0), (4, qp 4 0), (15, .agg (A4_Field.cells a1.F)), (16, qj 4)] [(2, some (.cells (Thing.cells g13))), (3, some (.cells (Delta.cells a1))), (4, some (.cells [lj 0, lj 0, lj 0, lj 0, ls be, lj 0, ls be, lj 0, ls be, lj 0, ls be]))] (F88_u14 n g13) (QB 0 (QT Try.prog D (n + 8) pc88_c29 (QF false pc88_r 0 F88_e))) := by
    unfold F88_u14
    exact SimL.succ (.seq (.rg [(2, qp 2 0), (3, qp 3 0), (4, qp 4 0), (15, .agg (A4_Field.cells a1.F)), (16, qj 4)] [(2, some (.cells (Thing.cells g13))), (3, some (.cells (Delta.cells a1))), (4, some (.cells [lj 0, lj 0, lj 0, lj 0, ls be, lj 0, ls be, lj 0, ls be, lj 0, ls be]))] (.rd 1 [(17, qb false)] [] (.thenN (.seq (.condF (by kernel_rfl) (.exit (.thenX (.loopX (.blockX (.thenN (.sr 2 [(29, .agg (Thing.cells g13))] [(4, some (.cells (Thing.cells g13)))] (.ret .fn)))))))))))))

def F88_u11 (n : Nat) (a0 : Thing) (a1 : Delta) (g10 : Thing) : Option Thing :=
    (F99 n a1.Mask 3).bind fun (r12 : Bool) =>
    if r12 then
      F88_u14 n (Thing.mk g10.ID g10.At (A4.mk g10.F.a0 g10.F.a1 g10.F.a2 a1.F.a3))
    else
      F88_u14 n g10
theorem F88_u11_ok (n : Nat) (a0 : Thing) (a1 : Delta) (g10 : Thing) : SimL Try.prog D (n + 8) (n + 5) pc88_c23 [(2, qp 2 0), (3, qp 3 0), (4, qp 4 0), (15, .agg (A4_Field.cells a1.F)), (16, qj 3)] [(2, some (.cells (Thing.cells g10))), (3, some (.cells (Delta.cells a1))), (4, some (.cells [lj 0, lj 0, lj 0, lj 0, ls be, lj 0, ls be, lj 0, ls be, lj 0, ls be]))] (F88_u11 n a0 a1 g10) (QB 0 (QT Try.prog D (n + 8) pc88_c29 (QF false pc88_r 0 F88_e))) := by
    unfold F88_u11
    refine SimL.succ (.seq (.rg [(2, qp 2 0), (3, qp 3 0), (4, qp 4 0), (15, .agg (A4_Field.cells a1.F)), (16, qj 3)] [(2, some (.cells (Thing.cells g10))), (3, some (.cells (Delta.cells a1))), (4, some (.cells [lj 0, lj 0, lj 0, lj 0, ls be, lj 0, ls be, lj 0, ls be, lj 0, ls be]))] (.rd 1 [(17, qb true)] [] (.thenN (.seq (.condT (by kernel_rfl) (.skip (.thenN (.seq (.block (.sr 5 [(5, qj 3), (6, qp 6 0), (19, .agg [lj a1.F.a3.N, ls a1.F.a3.Text]), (18, qj 3)] [(6, some (.cells [lj a1.F.a3.N, ls a1.F.a3.Text])), (6, some (.cells [lj 0, ls be]))] (.st 3 [(22, qj 3), (21, .one (li .u8 a1.Mask)), (20, qp 3 1)] [] (.cl 23 true [[], []] 99 [Operand.tmp 21, Operand.tmp 22] none (fun r12 => qb r12) [.one (li .u8 a1.Mask), qj 3] (F99_ok n a1.Mask 3) (fun r12 => ?_))))))))))))))
    refine SimI.dn (.thenN (.cond r12 (by kernel_rfl) ?_ ?_))
    · refine Sim.region0 (.rd 5 [(27, qp 2 9), (26, qp 2 3), (25, .agg [lj a1.F.a3.N, ls a1.F.a3.Text]), (24, qj 3)] [(2, some (.cells [lj g10.ID, lj g10.At.X, lj g10.At.Y, lj g10.F.a0.N, ls g10.F.a0.Text, lj g10.F.a1.N, ls g10.F.a1.Text, lj g10.F.a2.N, ls g10.F.a2.Text, lj a1.F.a3.N, ls a1.F.a3.Text]))] (.blockN (.thenN (.region0 (.rd 2 [(16, qj 4), (28, qj 4)] [] (.loopN (.pr [2, 3, 4, 15, 16] [2, 3, 4, 6] [] [(2, qp 2 0), (3, qp 3 0), (4, qp 4 0), (15, .agg (A4_Field.cells a1.F)), (16, qj 4)] [(2, some (.cells [lj g10.ID, lj g10.At.X, lj g10.At.Y, lj g10.F.a0.N, ls g10.F.a0.Text, lj g10.F.a1.N, ls g10.F.a1.Text, lj g10.F.a2.N, ls g10.F.a2.Text, lj a1.F.a3.N, ls a1.F.a3.Text])), (3, some (.cells (Delta.cells a1))), (4, some (.cells [lj 0, lj 0, lj 0, lj 0, ls be, lj 0, ls be, lj 0, ls be, lj 0, ls be]))] ?_)))))))
      exact F88_u14_ok n a1 (Thing.mk g10.ID g10.At (A4.mk g10.F.a0 g10.F.a1 g10.F.a2 a1.F.a3))
    · refine Sim.skip (.blockN (.thenN (.region0 (.rd 2 [(16, qj 4), (28, qj 4)] [] (.loopN (.pr [2, 3, 4, 15, 16] [2, 3, 4, 6] [] [(2, qp 2 0), (3, qp 3 0), (4, qp 4 0), (15, .agg (A4_Field.cells a1.F)), (16, qj 4)] [(2, some (.cells (Thing.cells g10))), (3, some (.cells (Delta.cells a1))), (4, some (.cells [lj 0, lj 0, lj 0, lj 0, ls be, lj 0, ls be, lj 0, ls be, lj 0, ls be]))] ?_))))))
      exact F88_u14_ok n a1 g10

def F88_u8 (n : Nat) (a0 : Thing) (a1 : Delta) (g7 : Thing) : Option Thing :=
    (F99 n a1.Mask 2).bind fun (r9 : Bool) =>
    if r9 then
      F88_u11 n a0 a1 (Thing.mk g7.ID g7.At (A4.mk g7.F.a0 g7.F.a1 a1.F.a2 g7.F.a3))
    else
      F88_u11 n a0 a1 g7
theorem F88_u8_ok (n : Nat) (a0 : Thing) (a1 : Delta) (g7 : Thing) : SimL Try.prog D (n + 8) (n + 6) pc88_c23 [(2, qp 2 0), (3, qp 3 0), (4, qp 4 0), (15, .agg (A4_Field.cells a1.F)), (16, qj 2)] [(2, some (.cells (Thing.cells g7))), (3, some (.cells (Delta.cells a1))), (4, some (.cells [lj 0, lj 0, lj 0, lj 0, ls be, lj 0, ls be, lj 0, ls be, lj 0, ls be]))] (F88_u8 n a0 a1 g7) (QB 0 (QT Try.prog D (n + 8) pc88_c29 (QF false pc88_r 0 F88_e))) := by
    unfold F88_u8
    refine SimL.succ (.seq (.rg [(2, qp 2 0), (3, qp 3 0), (4, qp 4 0), (15, .agg (A4_Field.cells a1.F)), (16, qj 2)] [(2, some (.cells (Thing.cells g7))), (3, some (.cells (Delta.cells a1))), (4, some (.cells [lj 0, lj 0, lj 0, lj 0, ls be, lj 0, ls be, lj 0, ls be, lj 0, ls be]))] (.rd 1 [(17, qb true)] [] (.thenN (.seq (.condT (by kernel_rfl) (.skip (.thenN (.seq (.block (.sr 5 [(5, qj 2), (6, qp 6 0), (19, .agg [lj a1.F.a2.N, ls a1.F.a2.Text]), (18, qj 2)] [(6, some (.cells [lj a1.F.a2.N, ls a1.F.a2.Text])), (6, some (.cells [lj 0, ls be]))] (.st 3 [(22, qj 2), (21, .one (li .u8 a1.Mask)), (20, qp 3 1)] [] (.cl 23 true [[], []] 99 [Operand.tmp 21, Operand.tmp 22] none (fun r9 => qb r9) [.one (li .u8 a1.Mask), qj 2] (F99_ok n a1.Mask 2) (fun r9 => ?_))))))))))))))
    refine SimI.dn (.thenN (.cond r9 (by kernel_rfl) ?_ ?_))
    · refine Sim.region0 (.rd 5 [(27, qp 2 7), (26, qp 2 3), (25, .agg [lj a1.F.a2.N, ls a1.F.a2.Text]), (24, qj 2)] [(2, some (.cells [lj g7.ID, lj g7.At.X, lj g7.At.Y, lj g7.F.a0.N, ls g7.F.a0.Text, lj g7.F.a1.N, ls g7.F.a1.Text, lj a1.F.a2.N, ls a1.F.a2.Text, lj g7.F.a3.N, ls g7.F.a3.Text]))] (.blockN (.thenN (.region0 (.rd 2 [(16, qj 3), (28, qj 3)] [] (.loopN (.pr [2, 3, 4, 15, 16] [2, 3, 4, 6] [] [(2, qp 2 0), (3, qp 3 0), (4, qp 4 0), (15, .agg (A4_Field.cells a1.F)), (16, qj 3)] [(2, some (.cells [lj g7.ID, lj g7.At.X, lj g7.At.Y, lj g7.F.a0.N, ls g7.F.a0.Text, lj g7.F.a1.N, ls g7.F.a1.Text, lj a1.F.a2.N, ls a1.F.a2.Text, lj g7.F.a3.N, ls g7.F.a3.Text])), (3, some (.cells (Delta.cells a1))), (4, some (.cells [lj 0, lj 0, lj 0, lj 0, ls be, lj 0, ls be, lj 0, ls be, lj 0, ls be]))] ?_)))))))
      exact F88_u11_ok n a0 a1 (Thing.mk g7.ID g7.At (A4.mk g7.F.a0 g7.F.a1 a1.F.a2 g7.F.a3))
    · refine Sim.skip (.blockN (.thenN (.region0 (.rd 2 [(16, qj 3), (28, qj 3)] [] (.loopN (.pr [2, 3, 4, 15, 16] [2, 3, 4, 6] [] [(2, qp 2 0), (3, qp 3 0), (4, qp 4 0), (15, .agg (A4_Field.cells a1.F)), (16, qj 3)] [(2, some (.cells (Thing.cells g7))), (3, some (.cells (Delta.cells a1))), (4, some (.cells [lj 0, lj 0, lj 0, lj 0, ls be, lj 0, ls be, lj 0, ls be, lj 0, ls be]))] ?_))))))
      exact F88_u11_ok n a0 a1 g7

def F88_u5 (n : Nat) (a0 : Thing) (a1 : Delta) (g4 : Thing) : Option Thing :=
    (F99 n a1.Mask 1).bind fun (r6 : Bool) =>
    if r6 then
      F88_u8 n a0 a1 (Thing.mk g4.ID g4.At (A4.mk g4.F.a0 a1.F.a1 g4.F.a2 g4.F.a3))
    else
      F88_u8 n a0 a1 g4
theorem F88_u5_ok (n : Nat) (a0 : Thing) (a1 : Delta) (g4 : Thing) : SimL Try.prog D (n + 8) (n + 7) pc88_c23 [(2, qp 2 0), (3, qp 3 0), (4, qp 4 0), (15, .agg (A4_Field.cells a1.F)), (16, qj 1)] [(2, some (.cells (Thing.cells g4))), (3, some (.cells (Delta.cells a1))), (4, some (.cells [lj 0, lj 0, lj 0, lj 0, ls be, lj 0, ls be, lj 0, ls be, lj 0, ls be]))] (F88_u5 n a0 a1 g4) (QB 0 (QT Try.prog D (n + 8) pc88_c29 (QF false pc88_r 0 F88_e))) := by
    unfold F88_u5
    refine SimL.succ (.seq (.rg [(2, qp 2 0), (3, qp 3 0), (4, qp 4 0), (15, .agg (A4_Field.cells a1.F)), (16, qj 1)] [(2, some (.cells (Thing.cells g4))), (3, some (.cells (Delta.cells a1))), (4, some (.cells [lj 0, lj 0, lj 0, lj 0, ls be, lj 0, ls be, lj 0, ls be, lj 0, ls be]))] (.rd 1 [(17, qb true)] [] (.thenN (.seq (.condT (by kernel_rfl) (.skip (.thenN (.seq (.block (.sr 5 [(5, qj 1), (6, qp 6 0), (19, .agg [lj a1.F.a1.N, ls a1.F.a1.Text]), (18, qj 1)] [(6, some (.cells [lj a1.F.a1.N, ls a1.F.a1.Text])), (6, some (.cells [lj 0, ls be]))] (.st 3 [(22, qj 1), (21, .one (li .u8 a1.Mask)), (20, qp 3 1)] [] (.cl 23 true [[], []] 99 [Operand.tmp 21, Operand.tmp 22] none (fun r6 => qb r6) [.one (li .u8 a1.Mask), qj 1] (F99_ok n a1.Mask 1) (fun r6 => ?_))))))))))))))
    refine SimI.dn (.thenN (.cond r6 (by kernel_rfl) ?_ ?_))
    · refine Sim.region0 (.rd 5 [(27, qp 2 5), (26, qp 2 3), (25, .agg [lj a1.F.a1.N, ls a1.F.a1.Text]), (24, qj 1)] [(2, some (.cells [lj g4.ID, lj g4.At.X, lj g4.At.Y, lj g4.F.a0.N, ls g4.F.a0.Text, lj a1.F.a1.N, ls a1.F.a1.Text, lj g4.F.a2.N, ls g4.F.a2.Text, lj g4.F.a3.N, ls g4.F.a3.Text]))] (.blockN (.thenN (.region0 (.rd 2 [(16, qj 2), (28, qj 2)] [] (.loopN (.pr [2, 3, 4, 15, 16] [2, 3, 4, 6] [] [(2, qp 2 0), (3, qp 3 0), (4, qp 4 0), (15, .agg (A4_Field.cells a1.F)), (16, qj 2)] [(2, some (.cells [lj g4.ID, lj g4.At.X, lj g4.At.Y, lj g4.F.a0.N, ls g4.F.a0.Text, lj a1.F.a1.N, ls a1.F.a1.Text, lj g4.F.a2.N, ls g4.F.a2.Text, lj g4.F.a3.N, ls g4.F.a3.Text])), (3, some (.cells (Delta.cells a1))), (4, some (.cells [lj 0, lj 0, lj 0, lj 0, ls be, lj 0, ls be, lj 0, ls be, lj 0, ls be]))] ?_)))))))
      exact F88_u8_ok n a0 a1 (Thing.mk g4.ID g4.At (A4.mk g4.F.a0 a1.F.a1 g4.F.a2 g4.F.a3))
    · refine Sim.skip (.blockN (.thenN (.region0 (.rd 2 [(16, qj 2), (28, qj 2)] [] (.loopN (.pr [2, 3, 4, 15, 16] [2, 3, 4, 6] [] [(2, qp 2 0), (3, qp 3 0), (4, qp 4 0), (15, .agg (A4_Field.cells a1.F)), (16, qj 2)] [(2, some (.cells (Thing.cells g4))), (3, some (.cells (Delta.cells a1))), (4, some (.cells [lj 0, lj 0, lj 0, lj 0, ls be, lj 0, ls be, lj 0, ls be, lj 0, ls be]))] ?_))))))
      exact F88_u8_ok n a0 a1 g4

def F88_j2 (n : Nat) (a0 : Thing) (a1 : Delta) (g1 : Thing) : Option Thing :=
    (F99 n a1.Mask 0).bind fun (r3 : Bool) =>
    if r3 then
      F88_u5 n a0 a1 (Thing.mk g1.ID g1.At (A4.mk a1.F.a0 g1.F.a1 g1.F.a2 g1.F.a3))
    else
      F88_u5 n a0 a1 g1
theorem F88_j2_ok (n : Nat) (a0 : Thing) (a1 : Delta) (g1 : Thing) : Sim Try.prog D (n + 8) pc88_c30 [(2, qp 2 0), (3, qp 3 0), (4, qp 4 0)] [(2, some (.cells (Thing.cells g1))), (3, some (.cells (Delta.cells a1))), (4, some (.cells [lj 0, lj 0, lj 0, lj 0, ls be, lj 0, ls be, lj 0, ls be, lj 0, ls be]))] (F88_j2 n a0 a1 g1) (QF false pc88_r 0 F88_e) := by
    unfold F88_j2
    refine Sim.seq (.seq (.rg [(2, qp 2 0), (3, qp 3 0), (4, qp 4 0)] [(2, some (.cells (Thing.cells g1))), (3, some (.cells (Delta.cells a1))), (4, some (.cells [lj 0, lj 0, lj 0, lj 0, ls be, lj 0, ls be, lj 0, ls be, lj 0, ls be]))] (.rd 3 [(16, qj 0), (15, .agg (A4_Field.cells a1.F)), (14, qp 3 4)] [] (.thenN (.block (.loop (.succ (.seq (.rg [(2, qp 2 0), (3, qp 3 0), (4, qp 4 0), (15, .agg (A4_Field.cells a1.F)), (16, qj 0)] [(2, some (.cells (Thing.cells g1))), (3, some (.cells (Delta.cells a1))), (4, some (.cells [lj 0, lj 0, lj 0, lj 0, ls be, lj 0, ls be, lj 0, ls be, lj 0, ls be]))] (.rd 1 [(17, qb true)] [] (.thenN (.seq (.condT (by kernel_rfl) (.skip (.thenN (.seq (.block (.sr 5 [(5, qj 0), (6, qp 6 0), (19, .agg [lj a1.F.a0.N, ls a1.F.a0.Text]), (18, qj 0)] [(6, some (.cells [lj a1.F.a0.N, ls a1.F.a0.Text])), (6, some (.cells [lj 0, ls be]))] (.st 3 [(22, qj 0), (21, .one (li .u8 a1.Mask)), (20, qp 3 1)] [] (.cl 23 true [[], []] 99 [Operand.tmp 21, Operand.tmp 22] none (fun r3 => qb r3) [.one (li .u8 a1.Mask), qj 0] (F99_ok n a1.Mask 0) (fun r3 => ?_)))))))))))))))))))))
    refine SimI.dn (.thenN (.cond r3 (by kernel_rfl) ?_ ?_))
    · refine Sim.region0 (.rd 5 [(27, qp 2 3), (26, qp 2 3), (25, .agg [lj a1.F.a0.N, ls a1.F.a0.Text]), (24, qj 0)] [(2, some (.cells [lj g1.ID, lj g1.At.X, lj g1.At.Y, lj a1.F.a0.N, ls a1.F.a0.Text, lj g1.F.a1.N, ls g1.F.a1.Text, lj g1.F.a2.N, ls g1.F.a2.Text, lj g1.F.a3.N, ls g1.F.a3.Text]))] (.blockN (.thenN (.region0 (.rd 2 [(16, qj 1), (28, qj 1)] [] (.loopN (.pr [2, 3, 4, 15, 16] [2, 3, 4, 6] [] [(2, qp 2 0), (3, qp 3 0), (4, qp 4 0), (15, .agg (A4_Field.cells a1.F)), (16, qj 1)] [(2, some (.cells [lj g1.ID, lj g1.At.X, lj g1.At.Y, lj a1.F.a0.N, ls a1.F.a0.Text, lj g1.F.a1.N, ls g1.F.a1.Text, lj g1.F.a2.N, ls g1.F.a2.Text, lj g1.F.a3.N, ls g1.F.a3.Text])), (3, some (.cells (Delta.cells a1))), (4, some (.cells [lj 0, lj 0, lj 0, lj 0, ls be, lj 0, ls be, lj 0, ls be, lj 0, ls be]))] ?_)))))))
      exact F88_u5_ok n a0 a1 (Thing.mk g1.ID g1.At (A4.mk a1.F.a0 g1.F.a1 g1.F.a2 g1.F.a3))
    · refine Sim.skip (.blockN (.thenN (.region0 (.rd 2 [(16, qj 1), (28, qj 1)] [] (.loopN (.pr [2, 3, 4, 15, 16] [2, 3, 4, 6] [] [(2, qp 2 0), (3, qp 3 0), (4, qp 4 0), (15, .agg (A4_Field.cells a1.F)), (16, qj 1)] [(2, some (.cells (Thing.cells g1))), (3, some (.cells (Delta.cells a1))), (4, some (.cells [lj 0, lj 0, lj 0, lj 0, ls be, lj 0, ls be, lj 0, ls be, lj 0, ls be]))] ?_))))))
      exact F88_u5_ok n a0 a1 g1

def F88 (n : Nat) (a0 : Thing) (a1 : Delta) : Option Thing :=
  if (bitsI .and .u8 a1.Mask 1) != 0 then
    F88_j2 n a0 a1 (Thing.mk a0.ID a1.At a0.F)
  else
    F88_j2 n a0 a1 a0
theorem F88_ok (n : Nat) (a0 : Thing) (a1 : Delta) : ∀ r, F88 n a0 a1 = some r → D 88 [.agg (Thing.cells a0), .agg (Delta.cells a1)] [] = some (F88_e r) := by
  refine fn_to (D := D) (n := n + 8) (nt := 30) (rs := pc88_r) (c := pc88_c32) (L := [(0, .agg (Thing.cells a0)), (1, .agg (Delta.cells a1))]) (M := []) (k := 0) rfl rfl rfl rfl rfl rfl rfl ?_
  unfold F88
  refine Sim.sr 3 [(4, qp 4 0), (3, qp 3 0), (2, qp 2 0)] [(4, some (.cells [lj 0, lj 0, lj 0, lj 0, ls be, lj 0, ls be, lj 0, ls be, lj 0, ls be])), (3, some (.cells (Delta.cells a1))), (2, some (.cells (Thing.cells a0)))] (.seq (.sr 4 [(10, qb ((bitsI .and .u8 a1.Mask 1) != 0)), (9, .one (li .u8 (bitsI .and .u8 a1.Mask 1))), (8, .one (li .u8 a1.Mask)), (7, qp 3 1)] [] (.cond ((bitsI .and .u8 a1.Mask 1) != 0) (by kernel_rfl) ?_ ?_)))
  · refine Sim.region0 (.rd 4 [(13, qp 2 1), (12, .agg [lj a1.At.X, lj a1.At.Y]), (11, qp 3 2)] [(2, some (.cells [lj a0.ID, lj a1.At.X, lj a1.At.Y, lj a0.F.a0.N, ls a0.F.a0.Text, lj a0.F.a1.N, ls a0.F.a1.Text, lj a0.F.a2.N, ls a0.F.a2.Text, lj a0.F.a3.N, ls a0.F.a3.Text]))] (.thenN (.pr [2, 3, 4] [2, 3, 4] [] [(2, qp 2 0), (3, qp 3 0), (4, qp 4 0)] [(2, some (.cells [lj a0.ID, lj a1.At.X, lj a1.At.Y, lj a0.F.a0.N, ls a0.F.a0.Text, lj a0.F.a1.N, ls a0.F.a1.Text, lj a0.F.a2.N, ls a0.F.a2.Text, lj a0.F.a3.N, ls a0.F.a3.Text])), (3, some (.cells (Delta.cells a1))), (4, some (.cells [lj 0, lj 0, lj 0, lj 0, ls be, lj 0, ls be, lj 0, ls be, lj 0, ls be]))] ?_)))
    exact F88_j2_ok n a0 a1 (Thing.mk a0.ID a1.At a0.F)
  · refine Sim.skip (.thenN (.pr [2, 3, 4] [2, 3, 4] [] [(2, qp 2 0), (3, qp 3 0), (4, qp 4 0)] [(2, some (.cells (Thing.cells a0))), (3, some (.cells (Delta.cells a1))), (4, some (.cells [lj 0, lj 0, lj 0, lj 0, ls be, lj 0, ls be, lj 0, ls be, lj 0, ls be]))] ?_))
    exact F88_j2_ok n a0 a1 a0


-- 51: vedette/event.Apply
def F51_e : ((List Thing) × Bool) → PV × List Ob := fun r => (.tup [.one (vw Thing.cod r.1), .one (lb r.2)], [])
def F51 (n : Nat) (a0 : (List Thing)) (a1 : Event) : Option ((List Thing) × Bool) :=
  (F84s0 n a0 a1.ID).bind fun (r1 : (Int × Bool)) =>
  (F39 n a1).bind fun (r2 : Bool) =>
  if !(r2) then
    (cloneL a0).bind fun (l3 : (List Thing)) =>
    some (l3, false)
  else
    if r1.2 == (a1.Kind == 1) then
      (cloneL a0).bind fun (l4 : (List Thing)) =>
      some (l4, false)
    else
      (cloneL a0).bind fun (l5 : (List Thing)) =>
      if a1.Kind == 1 then
        (insL l5 r1.1 a1.Thing).bind fun (l6 : (List Thing)) =>
        some (l6, true)
      else
        if a1.Kind == 2 then
          (ix l5 r1.1).bind fun (x7 : Thing) =>
          (F88 n x7 a1.Delta).bind fun (r8 : Thing) =>
          (ix l5 r1.1).bind fun (x9 : Thing) =>
          some (((l5).set ((r1.1).toNat) r8), true)
        else
          (delL l5 r1.1 (IntKind.wrap .i64 (r1.1 + 1))).bind fun (l10 : (List Thing)) =>
          some (l10, true)
theorem F51_ok (n : Nat) (a0 : (List Thing)) (a1 : Event) : ∀ r, F51 n a0 a1 = some r → D 51 [.one (vw Thing.cod a0), .agg (Event.cells a1)] [] = some (F51_e r) := by
  refine fn_to (D := D) (n := n + 8) (nt := 58) (rs := pc51_r) (c := pc51_c30) (L := [(0, .one (vw Thing.cod a0)), (1, .agg (Event.cells a1))]) (M := []) (k := 0) rfl rfl rfl rfl rfl rfl rfl ?_
  unfold F51
  refine Sim.sr 3 [(5, qb false), (4, .one (lnil)), (3, qp 3 0)] [(3, some (.cells (Event.cells a1)))] (.st 3 [(12, qj a1.ID), (11, qp 3 1), (10, .one (vw Thing.cod a0))] [] (.bind (og := F84s0 n a0 a1.ID) ⟨some 13, POp.gcall false false [300000, 300001, 300002, 300003, 300004, 300005, 300006, 300007] [[(0, 11)], [], []] 84 [Operand.tmp 10, Operand.tmp 12, Operand.func 85], none, []⟩ (fun r1 => [(13, .tup [qj r1.1, qb r1.2])]) (fun r1 => []) (by kernel_rfl) (fun r1 hr => pOp_eff (by kernel_rfl) (by kernel_rfl) (eff_gcall (ks := []) (rks := []) (new := []) (ARGS := [.one (vw Thing.cod a0), qj a1.ID, .one (.val (.func (.func 85) #[] #[]))]) (args1 := [.one (vw Thing.cod a0), qj a1.ID, .one (.val (.func (.func 85) #[] #[]))]) (args2 := [.one (vw Thing.cod a0), qj a1.ID, .one (.val (.func (.func 85) #[] #[]))]) (os := []) (os' := []) (os1 := []) (res := .tup [qj r1.1, qb r1.2]) (res1 := .tup [qj r1.1, qb r1.2]) (r := .tup [qj r1.1, qb r1.2]) (N := []) (by kernel_rfl) (readA_ow (readA_keep (by kernel_rfl) (readA_keep (by kernel_rfl) (readA_keep (by kernel_rfl) (readA_nil))))) (by kernel_rfl) (by kernel_rfl) (by kernel_rfl) (by kernel_rfl) (F84s0_ok n a0 a1.ID r1 hr) (by kernel_rfl) (by kernel_rfl) (by kernel_rfl) rfl (by kernel_rfl) (by kernel_rfl) (by kernel_rfl))) (fun r1 => ?_)))
  refine SimI.rd 5 [(7, qb r1.2), (6, qj r1.1), (15, qb r1.2), (14, qj r1.1), (9, .tup [qj r1.1, qb r1.2])] [] (.thenN (.seq (.st 1 [(16, .agg (Event.cells a1))] [] (.cl 17 true [[]] 39 [Operand.tmp 16] none (fun r2 => qb r2) [.agg (Event.cells a1)] (F39_ok n a1) (fun r2 => ?_)))))
  refine SimI.rn 2 [(19, qb (!(r2))), (18, qb (!(r2)))] [] (.split 19 (!(r2)) (by kernel_rfl) ?_ ?_)
  · refine SimI.rd 6 [(25, qb true), (24, .tup []), (23, .tup []), (22, .tup []), (21, .tup []), (20, .tup [])] [] (.thenN (.condT (by kernel_rfl) (.st 1 [(26, .one (vw Thing.cod a0))] [] (.bind (og := cloneL a0) ⟨some 27, POp.gcall false false [300000, 300001, 300002, 300003, 300004, 300005, 300006, 300007] [[(0, 11)]] 78 [Operand.tmp 26], none, []⟩ (fun l3 => [(27, .one (.osl 300000 0 0 (l3).length))]) (fun l3 => [(300000, some (.arr 28 Thing.cod.sz 0 (l3).length (getOf Thing.cod l3)))]) (by kernel_rfl) (fun l3 hr => pOp_eff (by kernel_rfl) (by kernel_rfl) (eff_gcall (ks := []) (rks := []) (new := [300000]) (ARGS := [.one (vw Thing.cod a0)]) (args1 := [.one (vw Thing.cod a0)]) (args2 := [.one (vw Thing.cod a0)]) (os := []) (os' := [.arr 28 Thing.cod.sz 0 (l3).length (getOf Thing.cod l3)]) (os1 := [.arr 28 Thing.cod.sz 0 (l3).length (getOf Thing.cod l3)]) (res := .one (.osl 1000000 0 0 (l3).length)) (res1 := .one (.osl 1000000 0 0 (l3).length)) (r := .one (.osl 300000 0 0 (l3).length)) (N := [(300000, some (.arr 28 Thing.cod.sz 0 (l3).length (getOf Thing.cod l3)))]) (by kernel_rfl) (readA_ow (readA_keep (by kernel_rfl) (readA_nil))) (by kernel_rfl) (by kernel_rfl) (by kernel_rfl) (by kernel_rfl) (D_b78 (l := a0) (r := l3) hr) (by kernel_rfl) (by kernel_rfl) (by kernel_rfl) (by kernel_rfl) (by kernel_rfl) (by kernel_rfl) (by kernel_rfl))) (fun l3 => ?_)))))
    exact SimI.rd 2 [(5, qb false), (4, .one (.osl 300000 0 0 (l3).length))] [] (.thenN (.ret (.thenR (.fin (out_of (os := []) (ress_cons (resOf_own (c := Thing.cod) (k := 300000) (g := 0) (el := 28) (l := l3) (by kernel_rfl) (by kernel_rfl) (by kernel_rfl)) (ress_cons (v := qb false) (by kernel_rfl) (ress_nil))) (by kernel_rfl) rfl (by kernel_rfl))))))
  · refine SimI.rd 6 [(25, qb (r1.2 == (a1.Kind == 1))), (24, qb (r1.2 == (a1.Kind == 1))), (23, qb (a1.Kind == 1)), (22, qj a1.Kind), (21, qp 3 0), (20, qb r1.2)] [] (.thenN (.cond (r1.2 == (a1.Kind == 1)) (by kernel_rfl) ?_ ?_))
    · refine Sim.st 1 [(26, .one (vw Thing.cod a0))] [] (.bind (og := cloneL a0) ⟨some 27, POp.gcall false false [300000, 300001, 300002, 300003, 300004, 300005, 300006, 300007] [[(0, 11)]] 78 [Operand.tmp 26], none, []⟩ (fun l4 => [(27, .one (.osl 300000 0 0 (l4).length))]) (fun l4 => [(300000, some (.arr 28 Thing.cod.sz 0 (l4).length (getOf Thing.cod l4)))]) (by kernel_rfl) (fun l4 hr => pOp_eff (by kernel_rfl) (by kernel_rfl) (eff_gcall (ks := []) (rks := []) (new := [300000]) (ARGS := [.one (vw Thing.cod a0)]) (args1 := [.one (vw Thing.cod a0)]) (args2 := [.one (vw Thing.cod a0)]) (os := []) (os' := [.arr 28 Thing.cod.sz 0 (l4).length (getOf Thing.cod l4)]) (os1 := [.arr 28 Thing.cod.sz 0 (l4).length (getOf Thing.cod l4)]) (res := .one (.osl 1000000 0 0 (l4).length)) (res1 := .one (.osl 1000000 0 0 (l4).length)) (r := .one (.osl 300000 0 0 (l4).length)) (N := [(300000, some (.arr 28 Thing.cod.sz 0 (l4).length (getOf Thing.cod l4)))]) (by kernel_rfl) (readA_ow (readA_keep (by kernel_rfl) (readA_nil))) (by kernel_rfl) (by kernel_rfl) (by kernel_rfl) (by kernel_rfl) (D_b78 (l := a0) (r := l4) hr) (by kernel_rfl) (by kernel_rfl) (by kernel_rfl) (by kernel_rfl) (by kernel_rfl) (by kernel_rfl) (by kernel_rfl))) (fun l4 => ?_))
      exact SimI.rd 2 [(5, qb false), (4, .one (.osl 300000 0 0 (l4).length))] [] (.thenN (.ret (.thenR (.fin (out_of (os := []) (ress_cons (resOf_own (c := Thing.cod) (k := 300000) (g := 0) (el := 28) (l := l4) (by kernel_rfl) (by kernel_rfl) (by kernel_rfl)) (ress_cons (v := qb false) (by kernel_rfl) (ress_nil))) (by kernel_rfl) rfl (by kernel_rfl))))))
    · refine Sim.skip (.thenN (.st 1 [(28, .one (vw Thing.cod a0))] [] (.bind (og := cloneL a0) ⟨some 29, POp.gcall false false [300000, 300001, 300002, 300003, 300004, 300005, 300006, 300007] [[(0, 11)]] 78 [Operand.tmp 28], none, []⟩ (fun l5 => [(29, .one (.osl 300000 0 0 (l5).length))]) (fun l5 => [(300000, some (.arr 28 Thing.cod.sz 0 (l5).length (getOf Thing.cod l5)))]) (by kernel_rfl) (fun l5 hr => pOp_eff (by kernel_rfl) (by kernel_rfl) (eff_gcall (ks := []) (rks := []) (new := [300000]) (ARGS := [.one (vw Thing.cod a0)]) (args1 := [.one (vw Thing.cod a0)]) (args2 := [.one (vw Thing.cod a0)]) (os := []) (os' := [.arr 28 Thing.cod.sz 0 (l5).length (getOf Thing.cod l5)]) (os1 := [.arr 28 Thing.cod.sz 0 (l5).length (getOf Thing.cod l5)]) (res := .one (.osl 1000000 0 0 (l5).length)) (res1 := .one (.osl 1000000 0 0 (l5).length)) (r := .one (.osl 300000 0 0 (l5).length)) (N := [(300000, some (.arr 28 Thing.cod.sz 0 (l5).length (getOf Thing.cod l5)))]) (by kernel_rfl) (readA_ow (readA_keep (by kernel_rfl) (readA_nil))) (by kernel_rfl) (by kernel_rfl) (by kernel_rfl) (by kernel_rfl) (D_b78 (l := a0) (r := l5) hr) (by kernel_rfl) (by kernel_rfl) (by kernel_rfl) (by kernel_rfl) (by kernel_rfl) (by kernel_rfl) (by kernel_rfl))) (fun l5 => ?_))))
      refine SimI.rd 1 [(8, .one (.osl 300000 0 0 (l5).length))] [] (.thenN (.seq (.sr 2 [(31, qj a1.Kind), (30, qp 3 0)] [] (.block (.sr 2 [(37, qb (a1.Kind == 1)), (38, qb (a1.Kind == 1))] [] (.cond (a1.Kind == 1) (by kernel_rfl) ?_ ?_))))))
      · refine Sim.region0 (.rn 5 [(43, .one (.csl 43 11 0 1)), (42, .agg (Thing.cells a1.Thing)), (41, qp 3 2), (40, qj r1.1), (39, .one (.osl 300000 0 0 (l5).length))] [(43, some (.cells (Thing.cells a1.Thing)))] (.bind (og := insL l5 r1.1 a1.Thing) ⟨some 44, POp.gcall true false [43, 300000, 300001, 300002, 300003, 300004, 300005, 300006, 300007] [[(0, 11)], [], [(0, 11)]] 87 [Operand.tmp 39, Operand.tmp 40, Operand.tmp 43], none, []⟩ (fun l6 => [(44, .one (.osl 300000 (0 + 1) 0 (l6).length))]) (fun l6 => [(300000, some (.arr 28 Thing.cod.sz (0 + 1) (l6).length (getOf Thing.cod l6))), (43, some (.cells (Thing.cells a1.Thing)))]) (by kernel_rfl) (fun l6 hr => pOp_eff (by kernel_rfl) (by kernel_rfl) (eff_gcall (ks := [300000, 43]) (rks := []) (new := []) (ARGS := [.one (.osl 300000 0 0 (l5).length), qj r1.1, .one (.csl 43 11 0 1)]) (args1 := [.one (.osl 300000 0 0 (l5).length), qj r1.1, .one (.csl 43 11 0 1)]) (args2 := [.one (.osl 1000000 0 0 (l5).length), qj r1.1, .one (.csl 1000001 11 0 1)]) (os := [.arr 28 Thing.cod.sz 0 (l5).length (getOf Thing.cod l5), .cells (Thing.cells a1.Thing)]) (os' := [.arr 28 Thing.cod.sz 1 (l6).length (getOf Thing.cod l6), .cells (Thing.cells a1.Thing)]) (os1 := [.arr 28 Thing.cod.sz 1 (l6).length (getOf Thing.cod l6), .cells (Thing.cells a1.Thing)]) (res := .one (.osl 1000000 1 0 (l6).length)) (res1 := .one (.osl 1000000 1 0 (l6).length)) (r := .one (.osl 300000 (0 + 1) 0 (l6).length)) (N := [(300000, some (.arr 28 Thing.cod.sz (0 + 1) (l6).length (getOf Thing.cod l6))), (43, some (.cells (Thing.cells a1.Thing)))]) (by kernel_rfl) (by kernel_rfl) (by kernel_rfl) (by kernel_rfl) (by kernel_rfl) (by kernel_rfl) (D_b87 (l := l5) (i := r1.1) (a := a1.Thing) (r := l6) hr) (by kernel_rfl) (by kernel_rfl) (by kernel_rfl) (by kernel_rfl) (by kernel_rfl) (by kernel_rfl) (by kernel_rfl))) (fun l6 => ?_)))
        exact SimI.rd 1 [(8, .one (.osl 300000 (0 + 1) 0 (l6).length))] [] (.blockN (.thenN (.sr 3 [(5, qb true), (4, .one (.osl 300000 (0 + 1) 0 (l6).length)), (57, .one (.osl 300000 (0 + 1) 0 (l6).length))] [] (.ret (.fin (out_of (os := []) (ress_cons (resOf_own (c := Thing.cod) (k := 300000) (g := (0 + 1)) (el := 28) (l := l6) (by kernel_rfl) (by kernel_rfl) (by kernel_rfl)) (ress_cons (v := qb true) (by kernel_rfl) (ress_nil))) (by kernel_rfl) rfl (by kernel_rfl)))))))
      · refine Sim.sr 2 [(45, qb (a1.Kind == 2)), (46, qb (a1.Kind == 2))] [] (.cond (a1.Kind == 2) (by kernel_rfl) ?_ ?_)
        · refine Sim.region0 (.rn 4 [(50, qj r1.1), (49, .one (.osl 300000 0 0 (l5).length)), (48, qj r1.1), (47, .one (.osl 300000 0 0 (l5).length))] [] (.bindh (og := ix l5 r1.1) ⟨some 51, POp.iaddrS 11 (Operand.tmp 49) (Operand.tmp 50), none, [(49, Hint.obj 300000), (50, Hint.imm)]⟩ (fun x7 => [(51, .one (.aptr 300000 0 ((r1.1).toNat) 0))]) (fun x7 => []) (by kernel_rfl) (fun x7 hr => pOp_eff (by kernel_rfl) (by kernel_rfl) (eff_idxO (c := Thing.cod) (l := l5) (g := 0) (el := 28) (k := .i64) (n := r1.1) (by kernel_rfl) (by kernel_rfl) (by kernel_rfl) (by kernel_rfl) hr)) (fun x7 hx7 => ?_)))
          refine SimI.step ⟨some 52, POp.load true 11 (Operand.tmp 51), none, [(51, Hint.obj 300000)]⟩ [(52, .agg (Thing.cells x7))] [] (by kernel_rfl) (pOp_eff (by kernel_rfl) (by kernel_rfl) (eff_loadO (c := Thing.cod) (a := x7) (l := l5) (key := 300000) (g := 0) (el := 28) (off := 0) (i := (r1.1).toNat) (by kernel_rfl) (by kernel_rfl) (ix_some hx7).2.2.2 (by kernel_rfl))) (.rn 2 [(54, .agg (Delta.cells a1.Delta)), (53, qp 3 13)] [] (.bind (og := F88 n x7 a1.Delta) ⟨some 55, POp.call false [[], []] 88 [Operand.tmp 52, Operand.tmp 54], none, [(52, Hint.imm), (54, Hint.imm)]⟩ (fun r8 => [(55, .agg (Thing.cells r8))]) (fun r8 => []) (by kernel_rfl) (fun r8 hr => pOp_eff (by kernel_rfl) (by kernel_rfl) (eff_call (ARGS := [.agg (Thing.cells x7), .agg (Delta.cells a1.Delta)]) (by kernel_rfl) (args_clean (by kernel_rfl) (args_clean (by kernel_rfl) args_nil)) (F88_ok n x7 a1.Delta r8 hr) (by kernel_rfl))) (fun r8 => ?_)))
          refine SimI.bindh (og := ix l5 r1.1) ⟨some 56, POp.iaddrS 11 (Operand.tmp 47) (Operand.tmp 48), none, [(47, Hint.obj 300000), (48, Hint.imm)]⟩ (fun x9 => [(56, .one (.aptr 300000 0 ((r1.1).toNat) 0))]) (fun x9 => []) (by kernel_rfl) (fun x9 hr => pOp_eff (by kernel_rfl) (by kernel_rfl) (eff_idxO (c := Thing.cod) (l := l5) (g := 0) (el := 28) (k := .i64) (n := r1.1) (by kernel_rfl) (by kernel_rfl) (by kernel_rfl) (by kernel_rfl) hr)) (fun x9 hx9 => ?_)
          exact SimI.step ⟨none, POp.store 11 (Operand.tmp 56) (Operand.tmp 55), none, [(56, Hint.obj 300000), (55, Hint.imm)]⟩ [] [(300000, some (.arr 28 Thing.cod.sz 0 (((l5).set ((r1.1).toNat) r8)).length (getOf Thing.cod ((l5).set ((r1.1).toNat) r8))))] (by kernel_rfl) (pOp_eff_ (by kernel_rfl) (by kernel_rfl) (eff_storeO (c := Thing.cod) (key := 300000) (g := 0) (el := 28) (l := l5) (i := (r1.1).toNat) (b := r8) (by kernel_rfl) (by kernel_rfl) (by kernel_rfl) (ix_some hx9).2.2.1 (fun _ => rfl) rfl (by kernel_rfl))) (.slot 8 (.one (.osl 300000 0 0 (((l5).set ((r1.1).toNat) r8)).length)) (Eq.trans (b := PV.one (.osl 300000 0 0 (l5).length)) (by kernel_rfl) (congrArg (fun z => PV.one (Lf.osl 300000 0 0 z)) List.length_set.symm)) (.dn (.blockN (.thenN (.sr 3 [(5, qb true), (4, .one (.osl 300000 0 0 (((l5).set ((r1.1).toNat) r8)).length)), (57, .one (.osl 300000 0 0 (((l5).set ((r1.1).toNat) r8)).length))] [] (.ret (.fin (out_of (os := []) (ress_cons (resOf_own (c := Thing.cod) (k := 300000) (g := 0) (el := 28) (l := ((l5).set ((r1.1).toNat) r8)) (by kernel_rfl) (by kernel_rfl) (by kernel_rfl)) (ress_cons (v := qb true) (by kernel_rfl) (ress_nil))) (by kernel_rfl) rfl (by kernel_rfl)))))))))
        · refine Sim.region0 (.rn 4 [(35, qj (IntKind.wrap .i64 (r1.1 + 1))), (34, qj r1.1), (33, qj r1.1), (32, .one (.osl 300000 0 0 (l5).length))] [] (.bind (og := delL l5 r1.1 (IntKind.wrap .i64 (r1.1 + 1))) ⟨some 36, POp.gcall true false [300000, 300001, 300002, 300003, 300004, 300005, 300006, 300007] [[(0, 11)], [], []] 89 [Operand.tmp 32, Operand.tmp 33, Operand.tmp 35], none, []⟩ (fun l10 => [(36, .one (.osl 300000 (0 + 1) 0 (l10).length))]) (fun l10 => [(300000, some (.arr 28 Thing.cod.sz (0 + 1) (l10).length (getOf Thing.cod l10)))]) (by kernel_rfl) (fun l10 hr => pOp_eff (by kernel_rfl) (by kernel_rfl) (eff_gcall (ks := [300000]) (rks := []) (new := []) (ARGS := [.one (.osl 300000 0 0 (l5).length), qj r1.1, qj (IntKind.wrap .i64 (r1.1 + 1))]) (args1 := [.one (.osl 300000 0 0 (l5).length), qj r1.1, qj (IntKind.wrap .i64 (r1.1 + 1))]) (args2 := [.one (.osl 1000000 0 0 (l5).length), qj r1.1, qj (IntKind.wrap .i64 (r1.1 + 1))]) (os := [.arr 28 Thing.cod.sz 0 (l5).length (getOf Thing.cod l5)]) (os' := [.arr 28 Thing.cod.sz 1 (l10).length (getOf Thing.cod l10)]) (os1 := [.arr 28 Thing.cod.sz 1 (l10).length (getOf Thing.cod l10)]) (res := .one (.osl 1000000 1 0 (l10).length)) (res1 := .one (.osl 1000000 1 0 (l10).length)) (r := .one (.osl 300000 (0 + 1) 0 (l10).length)) (N := [(300000, some (.arr 28 Thing.cod.sz (0 + 1) (l10).length (getOf Thing.cod l10)))]) (by kernel_rfl) (by kernel_rfl) (by kernel_rfl) (by kernel_rfl) (by kernel_rfl) (by kernel_rfl) (D_b89 (l := l5) (i := r1.1) (j := IntKind.wrap .i64 (r1.1 + 1)) (r := l10) hr) (by kernel_rfl) (by kernel_rfl) (by kernel_rfl) (by kernel_rfl) (by kernel_rfl) (by kernel_rfl) (by kernel_rfl))) (fun l10 => ?_)))
          exact SimI.rd 1 [(8, .one (.osl 300000 (0 + 1) 0 (l10).length))] [] (.blockN (.thenN (.sr 3 [(5, qb true), (4, .one (.osl 300000 (0 + 1) 0 (l10).length)), (57, .one (.osl 300000 (0 + 1) 0 (l10).length))] [] (.ret (.fin (out_of (os := []) (ress_cons (resOf_own (c := Thing.cod) (k := 300000) (g := (0 + 1)) (el := 28) (l := l10) (by kernel_rfl) (by kernel_rfl) (by kernel_rfl)) (ress_cons (v := qb true) (by kernel_rfl) (ress_nil))) (by kernel_rfl) rfl (by kernel_rfl)))))))


-- 40: vedette/event.Fold
def F40_e : ((List Thing) × Bool) → PV × List Ob := fun r => (.tup [.one (vw Thing.cod r.1), .one (lb r.2)], [])
def F40_j16 (n : Nat) (a0 : (List Thing)) (l14 : (List Thing)) (b15 : Bool) : Option ((List Thing) × Bool) :=
    if !(b15) then
      (cloneL a0).bind fun (l17 : (List Thing)) =>
      some (l17, false)
    else
      some (l14, true)
theorem F40_j16_ok (n : Nat) (a0 : (List Thing)) (l14 : (List Thing)) (b15 : Bool) : Sim Try.prog D (n + 8) pc40_c36 [(0, .one (vw Thing.cod a0)), (6, .one (vw Thing.cod l14)), (7, qb b15)] [] (F40_j16 n a0 l14 b15) (QF false pc40_r 0 F40_e) := by
    unfold F40_j16
    refine Sim.seq (.seq (.rg [(0, .one (vw Thing.cod a0)), (6, .one (vw Thing.cod l14)), (7, qb b15)] [] (.rd 2 [(28, qb (!(b15))), (27, qb b15)] [] (.thenN (.cond (!(b15)) (by kernel_rfl) ?_ ?_)))))
    · refine Sim.st 1 [(29, .one (vw Thing.cod a0))] [] (.bind (og := cloneL a0) ⟨some 30, POp.gcall false true [300000, 300001, 300002, 300003, 300004, 300005, 300006, 300007] [[(0, 11)]] 78 [Operand.tmp 29], none, []⟩ (fun l17 => [(30, .one (vw Thing.cod l17))]) (fun l17 => []) (by kernel_rfl) (fun l17 hr => pOp_eff (by kernel_rfl) (by kernel_rfl) (eff_gcall (ks := []) (rks := []) (new := [300000]) (ARGS := [.one (vw Thing.cod a0)]) (args1 := [.one (vw Thing.cod a0)]) (args2 := [.one (vw Thing.cod a0)]) (os := []) (os' := [.arr 28 Thing.cod.sz 0 (l17).length (getOf Thing.cod l17)]) (os1 := [.arr 28 Thing.cod.sz 0 (l17).length (getOf Thing.cod l17)]) (res := .one (.osl 1000000 0 0 (l17).length)) (res1 := .one (vw Thing.cod l17)) (r := .one (vw Thing.cod l17)) (N := []) (by kernel_rfl) (readA_ow (readA_keep (by kernel_rfl) (readA_nil))) (by kernel_rfl) (by kernel_rfl) (by kernel_rfl) (by kernel_rfl) (D_b78 (l := a0) (r := l17) hr) (by kernel_rfl) (by kernel_rfl) (by kernel_rfl) (frz_new (c := Thing.cod) 28 l17) (by kernel_rfl) (by kernel_rfl) (by kernel_rfl))) (fun l17 => ?_))
      exact SimI.rd 2 [(5, qb false), (4, .one (vw Thing.cod l17))] [] (.thenN (.ret (.thenR .fn)))
    · exact Sim.skip (.thenN (.sr 3 [(5, qb true), (4, .one (vw Thing.cod l14)), (31, .one (vw Thing.cod l14))] [] (.ret .fn)))

def F40_l11 (n : Nat) (a0 : (List Thing)) (a1 : (List Event)) : Nat → (List Thing) → Bool → Int → Option ((List Thing) × Bool)
  | 0, _, _, _ => none
  | m + 1, l8, b9, i10 =>
    if decide (i10 < ((a1).length : Int)) then
      (ix a1 i10).bind fun (x12 : Event) =>
      (F51 n l8 x12).bind fun (r13 : ((List Thing) × Bool)) =>
      if !(r13.2) then
        F40_j16 n a0 r13.1 r13.2
      else
        (F40_l11 n a0 a1 m) r13.1 r13.2 (IntKind.wrap .i64 (i10 + 1))
    else
      F40_j16 n a0 l8 b9
theorem F40_l11_ok (n : Nat) (a0 : (List Thing)) (a1 : (List Event)) : ∀ (m : Nat) (l8 : (List Thing)) (b9 : Bool) (i10 : Int), SimL Try.prog D (n + 8) m pc40_c22 [(0, .one (vw Thing.cod a0)), (6, .one (vw Thing.cod l8)), (7, qb b9), (12, .one (vw Event.cod a1)), (13, qj ((a1).length : Int)), (14, qj i10)] [] (F40_l11 n a0 a1 m l8 b9 i10) (QB 0 (QT Try.prog D (n + 8) pc40_c36 (QF false pc40_r 0 F40_e))) := by
  intro m_l11
  induction m_l11 with
  | zero => intro l8 b9 i10; exact SimL.zero'  rfl
  | succ m_l11 ih_l11 =>
    intro l8 b9 i10
    refine SimL.succ ?_
    unfold F40_l11
    refine Sim.seq (.rg [(0, .one (vw Thing.cod a0)), (6, .one (vw Thing.cod l8)), (7, qb b9), (12, .one (vw Event.cod a1)), (13, qj ((a1).length : Int)), (14, qj i10)] [] (.rd 1 [(15, qb (decide (i10 < ((a1).length : Int))))] [] (.thenN (.seq (.cond (decide (i10 < ((a1).length : Int))) (by kernel_rfl) ?_ ?_)))))
    · refine Sim.skip (.thenN (.seq (.block (.seq (.region0 (.bind (og := ix a1 i10) ⟨some 16, POp.iaddrS 25 (Operand.tmp 12) (Operand.tmp 14), none, []⟩ (fun x12 => [(16, .one (.eptr (Event.cod.enc x12) 0))]) (fun x12 => []) (by kernel_rfl) (fun x12 hr => pOp_eff (by kernel_rfl) (by kernel_rfl) (eff_idx (c := Event.cod) (l := a1) (k := .i64) (n := i10) (by kernel_rfl) (by kernel_rfl) (by kernel_rfl) hr)) (fun x12 => ?_)))))))
      refine SimI.rd 3 [(9, qp 9 0), (17, .agg (Event.cells x12))] [(9, some (.cells (Event.cells x12))), (9, some (.cells [lj 0, lj 0, lj 0, lj 0, lj 0, lj 0, ls be, lj 0, ls be, lj 0, ls be, lj 0, ls be, lj 0, li .u8 0, lj 0, lj 0, lj 0, ls be, lj 0, ls be, lj 0, ls be, lj 0, ls be]))] (.thenN (.st 2 [(20, .agg (Event.cells x12)), (19, .one (vw Thing.cod l8))] [] (.cl 21 true [[(0, 11)], []] 51 [Operand.tmp 19, Operand.tmp 20] none (fun r13 => .tup [.one (vw Thing.cod r13.1), qb r13.2]) [.one (vw Thing.cod l8), .agg (Event.cells x12)] (F51_ok n l8 x12) (fun r13 => ?_))))
      refine SimI.rd 5 [(7, qb r13.2), (6, .one (vw Thing.cod r13.1)), (23, qb r13.2), (22, .one (vw Thing.cod r13.1)), (18, .tup [.one (vw Thing.cod r13.1), qb r13.2])] [] (.thenN (.sr 2 [(25, qb (!(r13.2))), (24, qb r13.2)] [] (.cond (!(r13.2)) (by kernel_rfl) ?_ ?_)))
      · refine Sim.exit (.blockY rfl (.thenX (.loopX (.blockX (.thenN (.pr [0, 6, 7] [9] [] [(0, .one (vw Thing.cod a0)), (6, .one (vw Thing.cod r13.1)), (7, qb r13.2)] [] ?_))))))
        exact F40_j16_ok n a0 r13.1 r13.2
      · refine Sim.skip (.blockN (.thenN (.region0 (.rd 2 [(14, qj (IntKind.wrap .i64 (i10 + 1))), (26, qj (IntKind.wrap .i64 (i10 + 1)))] [] (.loopN (.pr [0, 6, 7, 12, 13, 14] [9] [] [(0, .one (vw Thing.cod a0)), (6, .one (vw Thing.cod r13.1)), (7, qb r13.2), (12, .one (vw Event.cod a1)), (13, qj ((a1).length : Int)), (14, qj (IntKind.wrap .i64 (i10 + 1)))] [] ?_))))))
        exact ih_l11 r13.1 r13.2 (IntKind.wrap .i64 (i10 + 1))
    · refine Sim.exit (.thenX (.loopX (.blockX (.thenN (.pr [0, 6, 7] [9] [] [(0, .one (vw Thing.cod a0)), (6, .one (vw Thing.cod l8)), (7, qb b9)] [] ?_)))))
      exact F40_j16_ok n a0 l8 b9

def F40 (n : Nat) (a0 : (List Thing)) (a1 : (List Event)) : Option ((List Thing) × Bool) :=
  (cloneL a0).bind fun (l1 : (List Thing)) =>
  F40_l11 n a0 a1 (n + 8) l1 true 0
theorem F40_ok (n : Nat) (a0 : (List Thing)) (a1 : (List Event)) : ∀ r, F40 n a0 a1 = some r → D 40 [.one (vw Thing.cod a0), .one (vw Event.cod a1)] [] = some (F40_e r) := by
  refine fn_to (D := D) (n := n + 8) (nt := 32) (rs := pc40_r) (c := pc40_c41) (L := [(0, .one (vw Thing.cod a0)), (1, .one (vw Event.cod a1))]) (M := []) (k := 0) rfl rfl rfl rfl rfl rfl rfl ?_
  unfold F40
  refine Sim.sr 2 [(5, qb false), (4, .one (lnil))] [] (.scope (.st 1 [(10, .one (vw Thing.cod a0))] [] (.bind (og := cloneL a0) ⟨some 11, POp.gcall false true [300000, 300001, 300002, 300003, 300004, 300005, 300006, 300007] [[(0, 11)]] 78 [Operand.tmp 10], none, []⟩ (fun l1 => [(11, .one (vw Thing.cod l1))]) (fun l1 => []) (by kernel_rfl) (fun l1 hr => pOp_eff (by kernel_rfl) (by kernel_rfl) (eff_gcall (ks := []) (rks := []) (new := [300000]) (ARGS := [.one (vw Thing.cod a0)]) (args1 := [.one (vw Thing.cod a0)]) (args2 := [.one (vw Thing.cod a0)]) (os := []) (os' := [.arr 28 Thing.cod.sz 0 (l1).length (getOf Thing.cod l1)]) (os1 := [.arr 28 Thing.cod.sz 0 (l1).length (getOf Thing.cod l1)]) (res := .one (.osl 1000000 0 0 (l1).length)) (res1 := .one (vw Thing.cod l1)) (r := .one (vw Thing.cod l1)) (N := []) (by kernel_rfl) (readA_ow (readA_keep (by kernel_rfl) (readA_nil))) (by kernel_rfl) (by kernel_rfl) (by kernel_rfl) (by kernel_rfl) (D_b78 (l := a0) (r := l1) hr) (by kernel_rfl) (by kernel_rfl) (by kernel_rfl) (frz_new (c := Thing.cod) 28 l1) (by kernel_rfl) (by kernel_rfl) (by kernel_rfl))) (fun l1 => ?_))))
  refine SimI.rd 2 [(7, qb true), (6, .one (vw Thing.cod l1))] [] (.thenN (.seq (.label (.thenN (.seq (.sr 3 [(14, qj 0), (13, qj ((a1).length : Int)), (12, .one (vw Event.cod a1))] [] (.block (.loop (.pr [0, 6, 7, 12, 13, 14] [9] [] [(0, .one (vw Thing.cod a0)), (6, .one (vw Thing.cod l1)), (7, qb true), (12, .one (vw Event.cod a1)), (13, qj ((a1).length : Int)), (14, qj 0)] [] ?_)))))))))
  exact F40_l11_ok n a0 a1 (n + 8) l1 true 0


-- 65: vedette/num.Put
def F65_e : ByteArray → PV × List Ob := fun r => (.one (ls r), [])
def F65_l7 (n : Nat) : Nat → Int → (List Int) → Option ByteArray
  | 0, _, _ => none
  | m + 1, i5, l6 =>
    if decide ((128 : Int) ≤ i5) then
      if ((l6).length + 1) * 1 ≤ maxCells ∧ (l6).length + 1 ≤ maxCells then
        (F65_l7 n m) (shrI .u64 i5 7) (l6 ++ [bitsI .or .u8 (IntKind.wrap .u8 i5) 128])
      else none
    else
      if ((l6).length + 1) * 1 ≤ maxCells ∧ (l6).length + 1 ≤ maxCells then
        some (mkStr (l6 ++ [IntKind.wrap .u8 i5]))
      else none
theorem F65_l7_ok (n : Nat) : ∀ (m : Nat) (i5 : Int) (l6 : (List Int)), SimL Try.prog D (n + 8) m pc65_c12 [(0, .one (li .u64 i5)), (3, .one (.osl 100003 0 0 (l6).length))] [(100003, some (.arr 5 (codI .u8).sz 0 (l6).length (getOf (codI .u8) l6)))] (F65_l7 n m i5 l6) (QB 0 (QT Try.prog D (n + 8) pc65_c17 (QF false pc65_r 0 F65_e))) := by
  intro m_l7
  induction m_l7 with
  | zero => intro i5 l6; exact SimL.zero'  rfl
  | succ m_l7 ih_l7 =>
    intro i5 l6
    refine SimL.succ ?_
    unfold F65_l7
    refine Sim.seq (.seq (.rg [(0, .one (li .u64 i5)), (3, .one (.osl 100003 0 0 (l6).length))] [(100003, some (.arr 5 (codI .u8).sz 0 (l6).length (getOf (codI .u8) l6)))] (.rd 2 [(5, qb (decide ((128 : Int) ≤ i5))), (4, .one (li .u64 i5))] [] (.thenN (.cond (decide ((128 : Int) ≤ i5)) (by kernel_rfl) ?_ ?_)))))
    · refine Sim.skip (.thenN (.block (.st 5 [(10, .one (vw (codI .u8) [bitsI .or .u8 (IntKind.wrap .u8 i5) 128])), (9, .one (li .u8 (bitsI .or .u8 (IntKind.wrap .u8 i5) 128))), (8, .one (li .u8 (IntKind.wrap .u8 i5))), (7, .one (li .u64 i5)), (6, .one (.osl 100003 0 0 (l6).length))] [] (.guard (c := ((l6).length + 1) * 1 ≤ maxCells ∧ (l6).length + 1 ≤ maxCells) ⟨some 11, POp.app 100003 5 1 1 (Operand.tmp 6) (Operand.tmp 10), none, []⟩ [(11, .one (.osl 100003 (0 + 1) 0 ((l6 ++ [bitsI .or .u8 (IntKind.wrap .u8 i5) 128])).length))] [(100003, some (.arr 5 (codI .u8).sz (0 + 1) ((l6 ++ [bitsI .or .u8 (IntKind.wrap .u8 i5) 128])).length (getOf (codI .u8) (l6 ++ [bitsI .or .u8 (IntKind.wrap .u8 i5) 128]))))] (by kernel_rfl) (fun hc => pOp_eff (by kernel_rfl) (by kernel_rfl) (eff_appO (c := (codI .u8)) (g := 0) (l := l6) (a := bitsI .or .u8 (IntKind.wrap .u8 i5) 128) (by kernel_rfl) (by kernel_rfl) (by kernel_rfl) (by kernel_rfl) hc)) (.rd 1 [(3, .one (.osl 100003 (0 + 1) 0 ((l6 ++ [bitsI .or .u8 (IntKind.wrap .u8 i5) 128])).length))] [] (.thenN (.region0 (.rd 3 [(0, .one (li .u64 (shrI .u64 i5 7))), (13, .one (li .u64 (shrI .u64 i5 7))), (12, .one (li .u64 i5))] [] (.blockN (.loopN (.pr [0, 3] [100003] [(false, 3, 0, 100003, 5, 1)] [(0, .one (li .u64 (shrI .u64 i5 7))), (3, .one (.osl 100003 0 0 ((l6 ++ [bitsI .or .u8 (IntKind.wrap .u8 i5) 128])).length))] [(100003, some (.arr 5 (codI .u8).sz 0 ((l6 ++ [bitsI .or .u8 (IntKind.wrap .u8 i5) 128])).length (getOf (codI .u8) (l6 ++ [bitsI .or .u8 (IntKind.wrap .u8 i5) 128]))))] ?_)))))))))))
      exact ih_l7 (shrI .u64 i5 7) (l6 ++ [bitsI .or .u8 (IntKind.wrap .u8 i5) 128])
    · exact Sim.exit (.thenX (.loopX (.blockX (.thenN (.st 4 [(17, .one (vw (codI .u8) [IntKind.wrap .u8 i5])), (16, .one (li .u8 (IntKind.wrap .u8 i5))), (15, .one (li .u64 i5)), (14, .one (.osl 100003 0 0 (l6).length))] [] (.guard (c := ((l6).length + 1) * 1 ≤ maxCells ∧ (l6).length + 1 ≤ maxCells) ⟨some 18, POp.app 100003 5 1 1 (Operand.tmp 14) (Operand.tmp 17), none, []⟩ [(18, .one (.osl 100003 (0 + 1) 0 ((l6 ++ [IntKind.wrap .u8 i5])).length))] [(100003, some (.arr 5 (codI .u8).sz (0 + 1) ((l6 ++ [IntKind.wrap .u8 i5])).length (getOf (codI .u8) (l6 ++ [IntKind.wrap .u8 i5]))))] (by kernel_rfl) (fun hc => pOp_eff (by kernel_rfl) (by kernel_rfl) (eff_appO (c := (codI .u8)) (g := 0) (l := l6) (a := IntKind.wrap .u8 i5) (by kernel_rfl) (by kernel_rfl) (by kernel_rfl) (by kernel_rfl) hc)) (.step ⟨some 19, POp.b2s (Operand.tmp 18), none, []⟩ [(19, qs (mkStr (l6 ++ [IntKind.wrap .u8 i5])))] [] (by kernel_rfl) (pOp_eff (by kernel_rfl) (by kernel_rfl) (eff_b2sO (l := (l6 ++ [IntKind.wrap .u8 i5])) (k := 100003) (g := (0 + 1)) (el := 5) (by kernel_rfl) (by kernel_rfl))) (.rd 1 [(2, qs (mkStr (l6 ++ [IntKind.wrap .u8 i5])))] [] (.thenN (.ret .fn))))))))))

def F65 (n : Nat) (a0 : Int) : Option ByteArray :=
  F65_l7 n (n + 8) a0 ([] : List Int)
theorem F65_ok (n : Nat) (a0 : Int) : ∀ r, F65 n a0 = some r → D 65 [.one (li .u64 a0)] [] = some (F65_e r) := by
  refine fn_to (D := D) (n := n + 8) (nt := 20) (rs := pc65_r) (c := pc65_c20) (L := [(0, .one (li .u64 a0))]) (M := []) (k := 0) rfl rfl rfl rfl rfl rfl rfl ?_
  unfold F65
  refine Sim.sr 1 [(2, qs be)] [] (.sr 1 [(3, .one (lnil))] [] (.seq (.block (.loop (.pr [0, 3] [100003] [(false, 3, 0, 100003, 5, 1)] [(0, .one (li .u64 a0)), (3, .one (.osl 100003 0 0 (([] : List Int)).length))] [(100003, some (.arr 5 (codI .u8).sz 0 (([] : List Int)).length (getOf (codI .u8) ([] : List Int))))] ?_)))))
  exact F65_l7_ok n (n + 8) a0 ([] : List Int)


-- 81: vedette/event.Bytes$1
def F81_e : Bool → PV × List Ob := fun r => (.one (lb r), [])
def F81 (n : Nat) (a0 : Event) : Option Bool :=
  (F39 n a0).bind fun (r1 : Bool) =>
  some (!(r1))
theorem F81_ok (n : Nat) (a0 : Event) : ∀ r, F81 n a0 = some r → D 81 [.agg (Event.cells a0)] [] = some (F81_e r) := by
  refine fn_to (D := D) (n := n + 8) (nt := 6) (rs := pc81_r) (c := pc81_c5) (L := [(0, .agg (Event.cells a0))]) (M := []) (k := 0) rfl rfl rfl rfl rfl rfl rfl ?_
  unfold F81
  refine Sim.sr 2 [(2, qb false), (1, qp 1 0)] [(1, some (.cells (Event.cells a0)))] (.st 1 [(3, .agg (Event.cells a0))] [] (.cl 4 true [[]] 39 [Operand.tmp 3] none (fun r1 => qb r1) [.agg (Event.cells a0)] (F39_ok n a0) (fun r1 => ?_)))
  exact SimI.rd 2 [(2, qb (!(r1))), (5, qb (!(r1)))] [] (.thenN (.ret .fn))


-- 110: slices.IndexFunc[[]vedette/api.Event,vedette/api.Event]
def F110s0_e (a0 : (List Event)) : Int → PV × List Ob := fun r => (.one (li .i64 r), [])
def F110s0_l4 (n : Nat) (a0 : (List Event)) : Nat → Int → Option Int
  | 0, _ => none
  | m + 1, i3 =>
    if decide (i3 < ((a0).length : Int)) then
      (ix a0 i3).bind fun (x5 : Event) =>
      (F81 n x5).bind fun (r6 : Bool) =>
      if r6 then
        some i3
      else
        (F110s0_l4 n a0 m) (IntKind.wrap .i64 (i3 + 1))
    else
      some (-1)
theorem F110s0_l4_ok (n : Nat) (a0 : (List Event)) : ∀ (m : Nat) (i3 : Int), SimL Try.prog D (n + 8) m pc110_c20 [(0, .one (vw Event.cod a0)), (1, .one (.val (.func (.func 81) #[] #[]))), (7, qj ((a0).length : Int)), (8, qj i3)] [] (F110s0_l4 n a0 m i3) (QB 0 (QT Try.prog D (n + 8) pc110_c26 (QF false pc110_r 0 (F110s0_e a0)))) := by
  intro m_l4
  induction m_l4 with
  | zero => intro i3; exact SimL.zero'  rfl
  | succ m_l4 ih_l4 =>
    intro i3
    refine SimL.succ ?_
    unfold F110s0_l4
    refine Sim.seq (.rg [(0, .one (vw Event.cod a0)), (1, .one (.val (.func (.func 81) #[] #[]))), (7, qj ((a0).length : Int)), (8, qj i3)] [] (.rd 1 [(9, qb (decide (i3 < ((a0).length : Int))))] [] (.thenN (.seq (.cond (decide (i3 < ((a0).length : Int))) (by kernel_rfl) ?_ ?_)))))
    · refine Sim.skip (.thenN (.seq (.block (.sr 2 [(5, qj i3), (10, qj i3)] [] (.st 3 [(13, qj i3), (12, .one (vw Event.cod a0)), (11, .one (.val (.func (.func 81) #[] #[])))] [] (.bind (og := ix a0 i3) ⟨some 14, POp.iaddrS 25 (Operand.tmp 12) (Operand.tmp 13), none, []⟩ (fun x5 => [(14, .one (.eptr (Event.cod.enc x5) 0))]) (fun x5 => []) (by kernel_rfl) (fun x5 hr => pOp_eff (by kernel_rfl) (by kernel_rfl) (eff_idx (c := Event.cod) (l := a0) (k := .i64) (n := i3) (by kernel_rfl) (by kernel_rfl) (by kernel_rfl) hr)) (fun x5 => ?_)))))))
      refine SimI.rn 1 [(15, .agg (Event.cells x5))] [] (.bind (og := F81 n x5) ⟨some 16, POp.callv true [[]] (Operand.tmp 11) [Operand.tmp 15], none, []⟩ (fun r6 => [(16, qb r6)]) (fun r6 => []) (by kernel_rfl) (fun r6 hr => pOp_eff (by kernel_rfl) (by kernel_rfl) (eff_callvv (by kernel_rfl) (ARGS := [.agg (Event.cells x5)]) (by kernel_rfl) (args_clean (by kernel_rfl) args_nil) (F81_ok n x5 r6 hr) (by kernel_rfl))) (fun r6 => ?_))
      refine SimI.dn (.thenN (.cond r6 (by kernel_rfl) ?_ ?_))
      · exact Sim.sr 2 [(4, qj i3), (17, qj i3)] [] (.ret (.blockR (.thenR (.loopR (.blockR (.thenR .fn))))))
      · refine Sim.skip (.blockN (.thenN (.region0 (.rd 2 [(8, qj (IntKind.wrap .i64 (i3 + 1))), (18, qj (IntKind.wrap .i64 (i3 + 1)))] [] (.loopN (.pr [0, 1, 7, 8] [] [] [(0, .one (vw Event.cod a0)), (1, .one (.val (.func (.func 81) #[] #[]))), (7, qj ((a0).length : Int)), (8, qj (IntKind.wrap .i64 (i3 + 1)))] [] ?_))))))
        exact ih_l4 (IntKind.wrap .i64 (i3 + 1))
    · exact Sim.exit (.thenX (.loopX (.blockX (.thenN (.sr 1 [(4, qj (-1))] [] (.ret .fn))))))

def F110s0 (n : Nat) (a0 : (List Event)) : Option Int :=
  F110s0_l4 n a0 (n + 8) 0
theorem F110s0_ok (n : Nat) (a0 : (List Event)) : ∀ r, F110s0 n a0 = some r → D 110 [.one (vw Event.cod a0), .one (.val (.func (.func 81) #[] #[]))] [] = some ((F110s0_e a0) r) := by
  refine fn_to (D := D) (n := n + 8) (nt := 19) (rs := pc110_r) (c := pc110_c28) (L := [(0, .one (vw Event.cod a0)), (1, .one (.val (.func (.func 81) #[] #[])))]) (M := []) (k := 0) rfl rfl rfl rfl rfl rfl rfl ?_
  unfold F110s0
  refine Sim.sr 1 [(4, qj 0)] [] (.seq (.sr 3 [(8, qj 0), (7, qj ((a0).length : Int)), (6, .one (vw Event.cod a0))] [] (.block (.loop (.pr [0, 1, 7, 8] [] [] [(0, .one (vw Event.cod a0)), (1, .one (.val (.func (.func 81) #[] #[]))), (7, qj ((a0).length : Int)), (8, qj 0)] [] ?_)))))
  exact F110s0_l4_ok n a0 (n + 8) 0


-- 80: slices.ContainsFunc[[]vedette/api.Event,vedette/api.Event]
def F80s0_e (a0 : (List Event)) : Bool → PV × List Ob := fun r => (.one (lb r), [])
def F80s0 (n : Nat) (a0 : (List Event)) : Option Bool :=
  (F110s0 n a0).bind fun (r1 : Int) =>
  some (decide ((0 : Int) ≤ r1))
theorem F80s0_ok (n : Nat) (a0 : (List Event)) : ∀ r, F80s0 n a0 = some r → D 80 [.one (vw Event.cod a0), .one (.val (.func (.func 81) #[] #[]))] [] = some ((F80s0_e a0) r) := by
  refine fn_to (D := D) (n := n + 8) (nt := 9) (rs := pc80_r) (c := pc80_c5) (L := [(0, .one (vw Event.cod a0)), (1, .one (.val (.func (.func 81) #[] #[])))]) (M := []) (k := 0) rfl rfl rfl rfl rfl rfl rfl ?_
  unfold F80s0
  refine Sim.sr 1 [(4, qb false)] [] (.st 2 [(6, .one (.val (.func (.func 81) #[] #[]))), (5, .one (vw Event.cod a0))] [] (.bind (og := F110s0 n a0) ⟨some 7, POp.gcall false false [300000, 300001, 300002, 300003, 300004, 300005, 300006, 300007] [[(0, 25)], []] 110 [Operand.tmp 5, Operand.tmp 6], none, []⟩ (fun r1 => [(7, qj r1)]) (fun r1 => []) (by kernel_rfl) (fun r1 hr => pOp_eff (by kernel_rfl) (by kernel_rfl) (eff_gcall (ks := []) (rks := []) (new := []) (ARGS := [.one (vw Event.cod a0), .one (.val (.func (.func 81) #[] #[]))]) (args1 := [.one (vw Event.cod a0), .one (.val (.func (.func 81) #[] #[]))]) (args2 := [.one (vw Event.cod a0), .one (.val (.func (.func 81) #[] #[]))]) (os := []) (os' := []) (os1 := []) (res := qj r1) (res1 := qj r1) (r := qj r1) (N := []) (by kernel_rfl) (readA_ow (readA_keep (by kernel_rfl) (readA_keep (by kernel_rfl) (readA_nil)))) (by kernel_rfl) (by kernel_rfl) (by kernel_rfl) (by kernel_rfl) (F110s0_ok n a0 r1 hr) (by kernel_rfl) (by kernel_rfl) (by kernel_rfl) rfl (by kernel_rfl) (by kernel_rfl) (by kernel_rfl))) (fun r1 => ?_)))
  exact SimI.rd 2 [(4, qb (decide ((0 : Int) ≤ r1))), (8, qb (decide ((0 : Int) ≤ r1)))] [] (.thenN (.ret .fn))


-- 100: vedette/num.Text
def F100_e : ByteArray → PV × List Ob := fun r => (.one (ls r), [])
def F100 (n : Nat) (a0 : ByteArray) : Option ByteArray :=
  (F65 n (IntKind.wrap .u64 (a0.size : Int))).bind fun (r1 : ByteArray) =>
  if r1.size + a0.size ≤ 9223372036854775807 then
    some (r1 ++ a0)
  else none
theorem F100_ok (n : Nat) (a0 : ByteArray) : ∀ r, F100 n a0 = some r → D 100 [.one (ls a0)] [] = some (F100_e r) := by
  refine fn_to (D := D) (n := n + 8) (nt := 9) (rs := pc100_r) (c := pc100_c5) (L := [(0, qs a0)]) (M := []) (k := 0) rfl rfl rfl rfl rfl rfl rfl ?_
  unfold F100
  refine Sim.sr 1 [(2, qs be)] [] (.st 3 [(5, .one (li .u64 (IntKind.wrap .u64 (a0.size : Int)))), (4, qj (a0.size : Int)), (3, qs a0)] [] (.cl 6 true [[]] 65 [Operand.tmp 5] none (fun r1 => qs r1) [.one (li .u64 (IntKind.wrap .u64 (a0.size : Int)))] (F65_ok n (IntKind.wrap .u64 (a0.size : Int))) (fun r1 => ?_)))
  exact SimI.rn 1 [(7, qs a0)] [] (.guard (c := r1.size + a0.size ≤ 9223372036854775807) ⟨some 8, POp.prim (Prim.bin BinOp.add 9 false false) [Operand.tmp 6, Operand.tmp 7], none, []⟩ [(8, qs (r1 ++ a0))] [] (by kernel_rfl) (fun hc => pOp_eff (by kernel_rfl) (by kernel_rfl) (eff_prim (by kernel_rfl) (pr_addS _ _ _ r1 a0 hc))) (.rd 1 [(2, qs (r1 ++ a0))] [] (.thenN (.ret .fn))))


-- 114: vedette/num.Zig
def F114_e : Int → PV × List Ob := fun r => (.one (li .u64 r), [])
def F114 (n : Nat) (a0 : Int) : Option Int :=
  some (bitsI .xor .u64 (shlI .u64 (IntKind.wrap .u64 a0) 1) (IntKind.wrap .u64 (shrI .i64 a0 63)))
theorem F114_ok (n : Nat) (a0 : Int) : ∀ r, F114 n a0 = some r → D 114 [.one (li .i64 a0)] [] = some (F114_e r) := by
  refine fn_to (D := D) (n := n + 8) (nt := 10) (rs := pc114_r) (c := pc114_c5) (L := [(0, qj a0)]) (M := []) (k := 0) rfl rfl rfl rfl rfl rfl rfl ?_
  unfold F114
  exact Sim.sr 1 [(2, .one (li .u64 0))] [] (.sr 8 [(2, .one (li .u64 (bitsI .xor .u64 (shlI .u64 (IntKind.wrap .u64 a0) 1) (IntKind.wrap .u64 (shrI .i64 a0 63))))), (9, .one (li .u64 (bitsI .xor .u64 (shlI .u64 (IntKind.wrap .u64 a0) 1) (IntKind.wrap .u64 (shrI .i64 a0 63))))), (8, .one (li .u64 (IntKind.wrap .u64 (shrI .i64 a0 63)))), (7, qj (shrI .i64 a0 63)), (6, qj a0), (5, .one (li .u64 (shlI .u64 (IntKind.wrap .u64 a0) 1))), (4, .one (li .u64 (IntKind.wrap .u64 a0))), (3, qj a0)] [] (.ret .fn))


-- 101: vedette/num.Int
def F101_e : ByteArray → PV × List Ob := fun r => (.one (ls r), [])
def F101 (n : Nat) (a0 : Int) : Option ByteArray :=
  (F114 n a0).bind fun (r1 : Int) =>
  (F65 n r1).bind fun (r2 : ByteArray) =>
  some r2
theorem F101_ok (n : Nat) (a0 : Int) : ∀ r, F101 n a0 = some r → D 101 [.one (li .i64 a0)] [] = some (F101_e r) := by
  refine fn_to (D := D) (n := n + 8) (nt := 6) (rs := pc101_r) (c := pc101_c5) (L := [(0, qj a0)]) (M := []) (k := 0) rfl rfl rfl rfl rfl rfl rfl ?_
  unfold F101
  refine Sim.sr 1 [(2, qs be)] [] (.st 1 [(3, qj a0)] [] (.cl 4 true [[]] 114 [Operand.tmp 3] none (fun r1 => .one (li .u64 r1)) [qj a0] (F114_ok n a0) (fun r1 => ?_)))
  refine SimI.cl 5 true [[]] 65 [Operand.tmp 4] none (fun r2 => qs r2) [.one (li .u64 r1)] (F65_ok n r1) (fun r2 => ?_)
  exact SimI.rd 1 [(2, qs r2)] [] (.thenN (.ret .fn))


-- 63: vedette/fields.Bytes
def F63_e : (ByteArray × Int) → PV × List Ob := fun r => (.tup [.one (ls r.1), .one (li .i64 r.2)], [])
def F63_u27 (n : Nat) (s26 : ByteArray) : Option (ByteArray × Int) :=
    some (s26, 0)
theorem F63_u27_ok (n : Nat) (a0 : Delta) (s26 : ByteArray) : SimL Try.prog D (n + 8) (n + 4) pc63_c39 [(1, qp 1 0), (4, qs s26), (37, .agg (A4_Field.cells a0.F)), (38, qj 4)] [(1, some (.cells (Delta.cells a0)))] (F63_u27 n s26) (QB 0 (QT Try.prog D (n + 8) pc63_c45 (QF false pc63_r 0 F63_e))) := by
    unfold F63_u27
    exact SimL.succ (.seq (.rg [(1, qp 1 0), (4, qs s26), (37, .agg (A4_Field.cells a0.F)), (38, qj 4)] [(1, some (.cells (Delta.cells a0)))] (.rd 1 [(39, qb false)] [] (.thenN (.seq (.condF (by kernel_rfl) (.exit (.thenX (.loopX (.blockX (.thenN (.sr 3 [(3, qj 0), (2, qs s26), (61, qs s26)] [] (.ret .fn)))))))))))))

def F63_u22 (n : Nat) (a0 : Delta) (s21 : ByteArray) : Option (ByteArray × Int) :=
    (F99 n a0.Mask 3).bind fun (r23 : Bool) =>
    if !(r23) then
      F63_u27 n s21
    else
      (F100 n a0.F.a3.Text).bind fun (r24 : ByteArray) =>
      if s21.size + r24.size ≤ 9223372036854775807 then
        if a0.F.a3.Text.toList == ByteArray.empty.toList then
          (F101 n a0.F.a3.N).bind fun (r25 : ByteArray) =>
          if (s21 ++ r24).size + r25.size ≤ 9223372036854775807 then
            F63_u27 n ((s21 ++ r24) ++ r25)
          else none
        else
          F63_u27 n (s21 ++ r24)
      else none
theorem F63_u22_ok (n : Nat) (a0 : Delta) (s21 : ByteArray) : SimL Try.prog D (n + 8) (n + 5) pc63_c39 [(1, qp 1 0), (4, qs s21), (37, .agg (A4_Field.cells a0.F)), (38, qj 3)] [(1, some (.cells (Delta.cells a0)))] (F63_u22 n a0 s21) (QB 0 (QT Try.prog D (n + 8) pc63_c45 (QF false pc63_r 0 F63_e))) := by
    unfold F63_u22
    refine SimL.succ (.seq (.rg [(1, qp 1 0), (4, qs s21), (37, .agg (A4_Field.cells a0.F)), (38, qj 3)] [(1, some (.cells (Delta.cells a0)))] (.rd 1 [(39, qb true)] [] (.thenN (.seq (.condT (by kernel_rfl) (.skip (.thenN (.seq (.block (.sr 5 [(5, qj 3), (6, qp 6 0), (41, .agg [lj a0.F.a3.N, ls a0.F.a3.Text]), (40, qj 3)] [(6, some (.cells [lj a0.F.a3.N, ls a0.F.a3.Text])), (6, some (.cells [lj 0, ls be]))] (.seq (.st 3 [(44, qj 3), (43, .one (li .u8 a0.Mask)), (42, qp 1 1)] [] (.cl 45 true [[], []] 99 [Operand.tmp 43, Operand.tmp 44] none (fun r23 => qb r23) [.one (li .u8 a0.Mask), qj 3] (F99_ok n a0.Mask 3) (fun r23 => ?_)))))))))))))))
    refine SimI.rd 1 [(46, qb (!(r23)))] [] (.thenN (.cond (!(r23)) (by kernel_rfl) ?_ ?_))
    · refine Sim.exit (.thenX (.blockX (.thenN (.region0 (.rd 2 [(38, qj 4), (60, qj 4)] [] (.loopN (.pr [1, 4, 37, 38] [1, 6] [] [(1, qp 1 0), (4, qs s21), (37, .agg (A4_Field.cells a0.F)), (38, qj 4)] [(1, some (.cells (Delta.cells a0)))] ?_)))))))
      exact F63_u27_ok n a0 s21
    · refine Sim.skip (.thenN (.st 3 [(49, qs a0.F.a3.Text), (48, qp 6 1), (47, qs s21)] [] (.cl 50 true [[]] 100 [Operand.tmp 49] none (fun r24 => qs r24) [qs a0.F.a3.Text] (F100_ok n a0.F.a3.Text) (fun r24 => ?_))))
      refine SimI.guard (c := s21.size + r24.size ≤ 9223372036854775807) ⟨some 51, POp.prim (Prim.bin BinOp.add 9 false false) [Operand.tmp 47, Operand.tmp 50], none, []⟩ [(51, qs (s21 ++ r24))] [] (by kernel_rfl) (fun hc => pOp_eff (by kernel_rfl) (by kernel_rfl) (eff_prim (by kernel_rfl) (pr_addS _ _ _ s21 r24 hc))) (.rd 1 [(4, qs (s21 ++ r24))] [] (.thenN (.sr 3 [(54, qb (a0.F.a3.Text.toList == be.toList)), (53, qs a0.F.a3.Text), (52, qp 6 1)] [] (.cond (a0.F.a3.Text.toList == be.toList) (by kernel_rfl) ?_ ?_))))
      · refine Sim.region0 (.rn 3 [(57, qj a0.F.a3.N), (56, qp 6 0), (55, qs (s21 ++ r24))] [] (.cl 58 true [[]] 101 [Operand.tmp 57] none (fun r25 => qs r25) [qj a0.F.a3.N] (F101_ok n a0.F.a3.N) (fun r25 => ?_)))
        refine SimI.guard (c := (s21 ++ r24).size + r25.size ≤ 9223372036854775807) ⟨some 59, POp.prim (Prim.bin BinOp.add 9 false false) [Operand.tmp 55, Operand.tmp 58], none, []⟩ [(59, qs ((s21 ++ r24) ++ r25))] [] (by kernel_rfl) (fun hc => pOp_eff (by kernel_rfl) (by kernel_rfl) (eff_prim (by kernel_rfl) (pr_addS _ _ _ (s21 ++ r24) r25 hc))) (.rd 1 [(4, qs ((s21 ++ r24) ++ r25))] [] (.blockN (.thenN (.region0 (.rd 2 [(38, qj 4), (60, qj 4)] [] (.loopN (.pr [1, 4, 37, 38] [1, 6] [] [(1, qp 1 0), (4, qs ((s21 ++ r24) ++ r25)), (37, .agg (A4_Field.cells a0.F)), (38, qj 4)] [(1, some (.cells (Delta.cells a0)))] ?_)))))))
        exact F63_u27_ok n a0 ((s21 ++ r24) ++ r25)
      · refine Sim.skip (.blockN (.thenN (.region0 (.rd 2 [(38, qj 4), (60, qj 4)] [] (.loopN (.pr [1, 4, 37, 38] [1, 6] [] [(1, qp 1 0), (4, qs (s21 ++ r24)), (37, .agg (A4_Field.cells a0.F)), (38, qj 4)] [(1, some (.cells (Delta.cells a0)))] ?_))))))
        exact F63_u27_ok n a0 (s21 ++ r24)

def F63_u17 (n : Nat) (a0 : Delta) (s16 : ByteArray) : Option (ByteArray × Int) :=
    (F99 n a0.Mask 2).bind fun (r18 : Bool) =>
    if !(r18) then
      F63_u22 n a0 s16
    else
      (F100 n a0.F.a2.Text).bind fun (r19 : ByteArray) =>
      if s16.size + r19.size ≤ 9223372036854775807 then
        if a0.F.a2.Text.toList == ByteArray.empty.toList then
          (F101 n a0.F.a2.N).bind fun (r20 : ByteArray) =>
          if (s16 ++ r19).size + r20.size ≤ 9223372036854775807 then
            F63_u22 n a0 ((s16 ++ r19) ++ r20)
          else none
        else
          F63_u22 n a0 (s16 ++ r19)
      else none
theorem F63_u17_ok (n : Nat) (a0 : Delta) (s16 : ByteArray) : SimL Try.prog D (n + 8) (n + 6) pc63_c39 [(1, qp 1 0), (4, qs s16), (37, .agg (A4_Field.cells a0.F)), (38, qj 2)] [(1, some (.cells (Delta.cells a0)))] (F63_u17 n a0 s16) (QB 0 (QT Try.prog D (n + 8) pc63_c45 (QF false pc63_r 0 F63_e))) := by
    unfold F63_u17
    refine SimL.succ (.seq (.rg [(1, qp 1 0), (4, qs s16), (37, .agg (A4_Field.cells a0.F)), (38, qj 2)] [(1, some (.cells (Delta.cells a0)))] (.rd 1 [(39, qb true)] [] (.thenN (.seq (.condT (by kernel_rfl) (.skip (.thenN (.seq (.block (.sr 5 [(5, qj 2), (6, qp 6 0), (41, .agg [lj a0.F.a2.N, ls a0.F.a2.Text]), (40, qj 2)] [(6, some (.cells [lj a0.F.a2.N, ls a0.F.a2.Text])), (6, some (.cells [lj 0, ls be]))] (.seq (.st 3 [(44, qj 2), (43, .one (li .u8 a0.Mask)), (42, qp 1 1)] [] (.cl 45 true [[], []] 99 [Operand.tmp 43, Operand.tmp 44] none (fun r18 => qb r18) [.one (li .u8 a0.Mask), qj 2] (F99_ok n a0.Mask 2) (fun r18 => ?_)))))))))))))))
    refine SimI.rd 1 [(46, qb (!(r18)))] [] (.thenN (.cond (!(r18)) (by kernel_rfl) ?_ ?_))
    · refine Sim.exit (.thenX (.blockX (.thenN (.region0 (.rd 2 [(38, qj 3), (60, qj 3)] [] (.loopN (.pr [1, 4, 37, 38] [1, 6] [] [(1, qp 1 0), (4, qs s16), (37, .agg (A4_Field.cells a0.F)), (38, qj 3)] [(1, some (.cells (Delta.cells a0)))] ?_)))))))
      exact F63_u22_ok n a0 s16
    · refine Sim.skip (.thenN (.st 3 [(49, qs a0.F.a2.Text), (48, qp 6 1), (47, qs s16)] [] (.cl 50 true [[]] 100 [Operand.tmp 49] none (fun r19 => qs r19) [qs a0.F.a2.Text] (F100_ok n a0.F.a2.Text) (fun r19 => ?_))))
      refine SimI.guard (c := s16.size + r19.size ≤ 9223372036854775807) ⟨some 51, POp.prim (Prim.bin BinOp.add 9 false false) [Operand.tmp 47, Operand.tmp 50], none, []⟩ [(51, qs (s16 ++ r19))] [] (by kernel_rfl) (fun hc => pOp_eff (by kernel_rfl) (by kernel_rfl) (eff_prim (by kernel_rfl) (pr_addS _ _ _ s16 r19 hc))) (.rd 1 [(4, qs (s16 ++ r19))] [] (.thenN (.sr 3 [(54, qb (a0.F.a2.Text.toList == be.toList)), (53, qs a0.F.a2.Text), (52, qp 6 1)] [] (.cond (a0.F.a2.Text.toList == be.toList) (by kernel_rfl) ?_ ?_))))
      · refine Sim.region0 (.rn 3 [(57, qj a0.F.a2.N), (56, qp 6 0), (55, qs (s16 ++ r19))] [] (.cl 58 true [[]] 101 [Operand.tmp 57] none (fun r20 => qs r20) [qj a0.F.a2.N] (F101_ok n a0.F.a2.N) (fun r20 => ?_)))
        refine SimI.guard (c := (s16 ++ r19).size + r20.size ≤ 9223372036854775807) ⟨some 59, POp.prim (Prim.bin BinOp.add 9 false false) [Operand.tmp 55, Operand.tmp 58], none, []⟩ [(59, qs ((s16 ++ r19) ++ r20))] [] (by kernel_rfl) (fun hc => pOp_eff (by kernel_rfl) (by kernel_rfl) (eff_prim (by kernel_rfl) (pr_addS _ _ _ (s16 ++ r19) r20 hc))) (.rd 1 [(4, qs ((s16 ++ r19) ++ r20))] [] (.blockN (.thenN (.region0 (.rd 2 [(38, qj 3), (60, qj 3)] [] (.loopN (.pr [1, 4, 37, 38] [1, 6] [] [(1, qp 1 0), (4, qs ((s16 ++ r19) ++ r20)), (37, .agg (A4_Field.cells a0.F)), (38, qj 3)] [(1, some (.cells (Delta.cells a0)))] ?_)))))))
        exact F63_u22_ok n a0 ((s16 ++ r19) ++ r20)
      · refine Sim.skip (.blockN (.thenN (.region0 (.rd 2 [(38, qj 3), (60, qj 3)] [] (.loopN (.pr [1, 4, 37, 38] [1, 6] [] [(1, qp 1 0), (4, qs (s16 ++ r19)), (37, .agg (A4_Field.cells a0.F)), (38, qj 3)] [(1, some (.cells (Delta.cells a0)))] ?_))))))
        exact F63_u22_ok n a0 (s16 ++ r19)

def F63_u12 (n : Nat) (a0 : Delta) (s11 : ByteArray) : Option (ByteArray × Int) :=
    (F99 n a0.Mask 1).bind fun (r13 : Bool) =>
    if !(r13) then
      F63_u17 n a0 s11
    else
      (F100 n a0.F.a1.Text).bind fun (r14 : ByteArray) =>
      if s11.size + r14.size ≤ 9223372036854775807 then
        if a0.F.a1.Text.toList == ByteArray.empty.toList then
          (F101 n a0.F.a1.N).bind fun (r15 : ByteArray) =>
          if (s11 ++ r14).size + r15.size ≤ 9223372036854775807 then
            F63_u17 n a0 ((s11 ++ r14) ++ r15)
          else none
        else
          F63_u17 n a0 (s11 ++ r14)
      else none
theorem F63_u12_ok (n : Nat) (a0 : Delta) (s11 : ByteArray) : SimL Try.prog D (n + 8) (n + 7) pc63_c39 [(1, qp 1 0), (4, qs s11), (37, .agg (A4_Field.cells a0.F)), (38, qj 1)] [(1, some (.cells (Delta.cells a0)))] (F63_u12 n a0 s11) (QB 0 (QT Try.prog D (n + 8) pc63_c45 (QF false pc63_r 0 F63_e))) := by
    unfold F63_u12
    refine SimL.succ (.seq (.rg [(1, qp 1 0), (4, qs s11), (37, .agg (A4_Field.cells a0.F)), (38, qj 1)] [(1, some (.cells (Delta.cells a0)))] (.rd 1 [(39, qb true)] [] (.thenN (.seq (.condT (by kernel_rfl) (.skip (.thenN (.seq (.block (.sr 5 [(5, qj 1), (6, qp 6 0), (41, .agg [lj a0.F.a1.N, ls a0.F.a1.Text]), (40, qj 1)] [(6, some (.cells [lj a0.F.a1.N, ls a0.F.a1.Text])), (6, some (.cells [lj 0, ls be]))] (.seq (.st 3 [(44, qj 1), (43, .one (li .u8 a0.Mask)), (42, qp 1 1)] [] (.cl 45 true [[], []] 99 [Operand.tmp 43, Operand.tmp 44] none (fun r13 => qb r13) [.one (li .u8 a0.Mask), qj 1] (F99_ok n a0.Mask 1) (fun r13 => ?_)))))))))))))))
    refine SimI.rd 1 [(46, qb (!(r13)))] [] (.thenN (.cond (!(r13)) (by kernel_rfl) ?_ ?_))
    · refine Sim.exit (.thenX (.blockX (.thenN (.region0 (.rd 2 [(38, qj 2), (60, qj 2)] [] (.loopN (.pr [1, 4, 37, 38] [1, 6] [] [(1, qp 1 0), (4, qs s11), (37, .agg (A4_Field.cells a0.F)), (38, qj 2)] [(1, some (.cells (Delta.cells a0)))] ?_)))))))
      exact F63_u17_ok n a0 s11
    · refine Sim.skip (.thenN (.st 3 [(49, qs a0.F.a1.Text), (48, qp 6 1), (47, qs s11)] [] (.cl 50 true [[]] 100 [Operand.tmp 49] none (fun r14 => qs r14) [qs a0.F.a1.Text] (F100_ok n a0.F.a1.Text) (fun r14 => ?_))))
      refine SimI.guard (c := s11.size + r14.size ≤ 9223372036854775807) ⟨some 51, POp.prim (Prim.bin BinOp.add 9 false false) [Operand.tmp 47, Operand.tmp 50], none, []⟩ [(51, qs (s11 ++ r14))] [] (by kernel_rfl) (fun hc => pOp_eff (by kernel_rfl) (by kernel_rfl) (eff_prim (by kernel_rfl) (pr_addS _ _ _ s11 r14 hc))) (.rd 1 [(4, qs (s11 ++ r14))] [] (.thenN (.sr 3 [(54, qb (a0.F.a1.Text.toList == be.toList)), (53, qs a0.F.a1.Text), (52, qp 6 1)] [] (.cond (a0.F.a1.Text.toList == be.toList) (by kernel_rfl) ?_ ?_))))
      · refine Sim.region0 (.rn 3 [(57, qj a0.F.a1.N), (56, qp 6 0), (55, qs (s11 ++ r14))] [] (.cl 58 true [[]] 101 [Operand.tmp 57] none (fun r15 => qs r15) [qj a0.F.a1.N] (F101_ok n a0.F.a1.N) (fun r15 => ?_)))
        refine SimI.guard (c := (s11 ++ r14).size + r15.size ≤ 9223372036854775807) ⟨some 59, POp.prim (Prim.bin BinOp.add 9 false false) [Operand.tmp 55, Operand.tmp 58], none, []⟩ [(59, qs ((s11 ++ r14) ++ r15))] [] (by kernel_rfl) (fun hc => pOp_eff (by kernel_rfl) (by kernel_rfl) (eff_prim (by kernel_rfl) (pr_addS _ _ _ (s11 ++ r14) r15 hc))) (.rd 1 [(4, qs ((s11 ++ r14) ++ r15))] [] (.blockN (.thenN (.region0 (.rd 2 [(38, qj 2), (60, qj 2)] [] (.loopN (.pr [1, 4, 37, 38] [1, 6] [] [(1, qp 1 0), (4, qs ((s11 ++ r14) ++ r15)), (37, .agg (A4_Field.cells a0.F)), (38, qj 2)] [(1, some (.cells (Delta.cells a0)))] ?_)))))))
        exact F63_u17_ok n a0 ((s11 ++ r14) ++ r15)
      · refine Sim.skip (.blockN (.thenN (.region0 (.rd 2 [(38, qj 2), (60, qj 2)] [] (.loopN (.pr [1, 4, 37, 38] [1, 6] [] [(1, qp 1 0), (4, qs (s11 ++ r14)), (37, .agg (A4_Field.cells a0.F)), (38, qj 2)] [(1, some (.cells (Delta.cells a0)))] ?_))))))
        exact F63_u17_ok n a0 (s11 ++ r14)

def F63_j7 (n : Nat) (a0 : Delta) (s6 : ByteArray) : Option (ByteArray × Int) :=
    (F99 n a0.Mask 0).bind fun (r8 : Bool) =>
    if !(r8) then
      F63_u12 n a0 s6
    else
      (F100 n a0.F.a0.Text).bind fun (r9 : ByteArray) =>
      if s6.size + r9.size ≤ 9223372036854775807 then
        if a0.F.a0.Text.toList == ByteArray.empty.toList then
          (F101 n a0.F.a0.N).bind fun (r10 : ByteArray) =>
          if (s6 ++ r9).size + r10.size ≤ 9223372036854775807 then
            F63_u12 n a0 ((s6 ++ r9) ++ r10)
          else none
        else
          F63_u12 n a0 (s6 ++ r9)
      else none
theorem F63_j7_ok (n : Nat) (a0 : Delta) (s6 : ByteArray) : Sim Try.prog D (n + 8) pc63_c46 [(1, qp 1 0), (4, qs s6)] [(1, some (.cells (Delta.cells a0)))] (F63_j7 n a0 s6) (QF false pc63_r 0 F63_e) := by
    unfold F63_j7
    refine Sim.seq (.seq (.rg [(1, qp 1 0), (4, qs s6)] [(1, some (.cells (Delta.cells a0)))] (.rd 3 [(38, qj 0), (37, .agg (A4_Field.cells a0.F)), (36, qp 1 4)] [] (.thenN (.block (.loop (.succ (.seq (.rg [(1, qp 1 0), (4, qs s6), (37, .agg (A4_Field.cells a0.F)), (38, qj 0)] [(1, some (.cells (Delta.cells a0)))] (.rd 1 [(39, qb true)] [] (.thenN (.seq (.condT (by kernel_rfl) (.skip (.thenN (.seq (.block (.sr 5 [(5, qj 0), (6, qp 6 0), (41, .agg [lj a0.F.a0.N, ls a0.F.a0.Text]), (40, qj 0)] [(6, some (.cells [lj a0.F.a0.N, ls a0.F.a0.Text])), (6, some (.cells [lj 0, ls be]))] (.seq (.st 3 [(44, qj 0), (43, .one (li .u8 a0.Mask)), (42, qp 1 1)] [] (.cl 45 true [[], []] 99 [Operand.tmp 43, Operand.tmp 44] none (fun r8 => qb r8) [.one (li .u8 a0.Mask), qj 0] (F99_ok n a0.Mask 0) (fun r8 => ?_))))))))))))))))))))))
    refine SimI.rd 1 [(46, qb (!(r8)))] [] (.thenN (.cond (!(r8)) (by kernel_rfl) ?_ ?_))
    · refine Sim.exit (.thenX (.blockX (.thenN (.region0 (.rd 2 [(38, qj 1), (60, qj 1)] [] (.loopN (.pr [1, 4, 37, 38] [1, 6] [] [(1, qp 1 0), (4, qs s6), (37, .agg (A4_Field.cells a0.F)), (38, qj 1)] [(1, some (.cells (Delta.cells a0)))] ?_)))))))
      exact F63_u12_ok n a0 s6
    · refine Sim.skip (.thenN (.st 3 [(49, qs a0.F.a0.Text), (48, qp 6 1), (47, qs s6)] [] (.cl 50 true [[]] 100 [Operand.tmp 49] none (fun r9 => qs r9) [qs a0.F.a0.Text] (F100_ok n a0.F.a0.Text) (fun r9 => ?_))))
      refine SimI.guard (c := s6.size + r9.size ≤ 9223372036854775807) ⟨some 51, POp.prim (Prim.bin BinOp.add 9 false false) [Operand.tmp 47, Operand.tmp 50], none, []⟩ [(51, qs (s6 ++ r9))] [] (by kernel_rfl) (fun hc => pOp_eff (by kernel_rfl) (by kernel_rfl) (eff_prim (by kernel_rfl) (pr_addS _ _ _ s6 r9 hc))) (.rd 1 [(4, qs (s6 ++ r9))] [] (.thenN (.sr 3 [(54, qb (a0.F.a0.Text.toList == be.toList)), (53, qs a0.F.a0.Text), (52, qp 6 1)] [] (.cond (a0.F.a0.Text.toList == be.toList) (by kernel_rfl) ?_ ?_))))
      · refine Sim.region0 (.rn 3 [(57, qj a0.F.a0.N), (56, qp 6 0), (55, qs (s6 ++ r9))] [] (.cl 58 true [[]] 101 [Operand.tmp 57] none (fun r10 => qs r10) [qj a0.F.a0.N] (F101_ok n a0.F.a0.N) (fun r10 => ?_)))
        refine SimI.guard (c := (s6 ++ r9).size + r10.size ≤ 9223372036854775807) ⟨some 59, POp.prim (Prim.bin BinOp.add 9 false false) [Operand.tmp 55, Operand.tmp 58], none, []⟩ [(59, qs ((s6 ++ r9) ++ r10))] [] (by kernel_rfl) (fun hc => pOp_eff (by kernel_rfl) (by kernel_rfl) (eff_prim (by kernel_rfl) (pr_addS _ _ _ (s6 ++ r9) r10 hc))) (.rd 1 [(4, qs ((s6 ++ r9) ++ r10))] [] (.blockN (.thenN (.region0 (.rd 2 [(38, qj 1), (60, qj 1)] [] (.loopN (.pr [1, 4, 37, 38] [1, 6] [] [(1, qp 1 0), (4, qs ((s6 ++ r9) ++ r10)), (37, .agg (A4_Field.cells a0.F)), (38, qj 1)] [(1, some (.cells (Delta.cells a0)))] ?_)))))))
        exact F63_u12_ok n a0 ((s6 ++ r9) ++ r10)
      · refine Sim.skip (.blockN (.thenN (.region0 (.rd 2 [(38, qj 1), (60, qj 1)] [] (.loopN (.pr [1, 4, 37, 38] [1, 6] [] [(1, qp 1 0), (4, qs (s6 ++ r9)), (37, .agg (A4_Field.cells a0.F)), (38, qj 1)] [(1, some (.cells (Delta.cells a0)))] ?_))))))
        exact F63_u12_ok n a0 (s6 ++ r9)

def F63 (n : Nat) (a0 : Delta) : Option (ByteArray × Int) :=
  (F77 n a0).bind fun (r1 : Bool) =>
  if !(r1) then
    some (ByteArray.empty, 11)
  else
    (F65 n (IntKind.wrap .u64 a0.ID)).bind fun (r2 : ByteArray) =>
    (F65 n (IntKind.wrap .u64 a0.Mask)).bind fun (r3 : ByteArray) =>
    if r2.size + r3.size ≤ 9223372036854775807 then
      if (bitsI .and .u8 a0.Mask 1) != 0 then
        (F65 n (IntKind.wrap .u64 a0.At.X)).bind fun (r4 : ByteArray) =>
        (F65 n (IntKind.wrap .u64 a0.At.Y)).bind fun (r5 : ByteArray) =>
        if r4.size + r5.size ≤ 9223372036854775807 then
          if (r2 ++ r3).size + (r4 ++ r5).size ≤ 9223372036854775807 then
            F63_j7 n a0 ((r2 ++ r3) ++ (r4 ++ r5))
          else none
        else none
      else
        F63_j7 n a0 (r2 ++ r3)
    else none
theorem F63_ok (n : Nat) (a0 : Delta) : ∀ r, F63 n a0 = some r → D 63 [.agg (Delta.cells a0)] [] = some (F63_e r) := by
  refine fn_to (D := D) (n := n + 8) (nt := 62) (rs := pc63_r) (c := pc63_c50) (L := [(0, .agg (Delta.cells a0))]) (M := []) (k := 0) rfl rfl rfl rfl rfl rfl rfl ?_
  unfold F63
  refine Sim.sr 3 [(3, qj 0), (2, qs be), (1, qp 1 0)] [(1, some (.cells (Delta.cells a0)))] (.seq (.st 1 [(7, .agg (Delta.cells a0))] [] (.cl 8 true [[]] 77 [Operand.tmp 7] none (fun r1 => qb r1) [.agg (Delta.cells a0)] (F77_ok n a0) (fun r1 => ?_))))
  refine SimI.rd 1 [(9, qb (!(r1)))] [] (.thenN (.cond (!(r1)) (by kernel_rfl) ?_ ?_))
  · exact Sim.sr 2 [(3, qj 11), (2, qs be)] [] (.ret (.thenR .fn))
  · refine Sim.skip (.thenN (.st 3 [(12, .one (li .u64 (IntKind.wrap .u64 a0.ID))), (11, qj a0.ID), (10, qp 1 0)] [] (.bind (og := F65 n (IntKind.wrap .u64 a0.ID)) ⟨some 13, POp.call false [[]] 65 [Operand.tmp 12], none, [(12, Hint.imm)]⟩ (fun r2 => [(13, qs r2)]) (fun r2 => []) (by kernel_rfl) (fun r2 hr => pOp_eff (by kernel_rfl) (by kernel_rfl) (eff_call (ARGS := [.one (li .u64 (IntKind.wrap .u64 a0.ID))]) (by kernel_rfl) (args_clean (by kernel_rfl) args_nil) (F65_ok n (IntKind.wrap .u64 a0.ID) r2 hr) (by kernel_rfl))) (fun r2 => ?_))))
    refine SimI.rn 3 [(16, .one (li .u64 (IntKind.wrap .u64 a0.Mask))), (15, .one (li .u8 a0.Mask)), (14, qp 1 1)] [] (.bind (og := F65 n (IntKind.wrap .u64 a0.Mask)) ⟨some 17, POp.call false [[]] 65 [Operand.tmp 16], none, [(16, Hint.imm)]⟩ (fun r3 => [(17, qs r3)]) (fun r3 => []) (by kernel_rfl) (fun r3 hr => pOp_eff (by kernel_rfl) (by kernel_rfl) (eff_call (ARGS := [.one (li .u64 (IntKind.wrap .u64 a0.Mask))]) (by kernel_rfl) (args_clean (by kernel_rfl) args_nil) (F65_ok n (IntKind.wrap .u64 a0.Mask) r3 hr) (by kernel_rfl))) (fun r3 => ?_))
    refine SimI.guard (c := r2.size + r3.size ≤ 9223372036854775807) ⟨some 18, POp.prim (Prim.bin BinOp.add 9 false false) [Operand.tmp 13, Operand.tmp 17], none, [(13, Hint.imm), (17, Hint.imm)]⟩ [(18, qs (r2 ++ r3))] [] (by kernel_rfl) (fun hc => pOp_eff (by kernel_rfl) (by kernel_rfl) (eff_prim (by kernel_rfl) (pr_addS _ _ _ r2 r3 hc))) (.rd 1 [(4, qs (r2 ++ r3))] [] (.thenN (.seq (.sr 4 [(22, qb ((bitsI .and .u8 a0.Mask 1) != 0)), (21, .one (li .u8 (bitsI .and .u8 a0.Mask 1))), (20, .one (li .u8 a0.Mask)), (19, qp 1 1)] [] (.cond ((bitsI .and .u8 a0.Mask 1) != 0) (by kernel_rfl) ?_ ?_)))))
    · refine Sim.region0 (.rn 5 [(27, .one (li .u64 (IntKind.wrap .u64 a0.At.X))), (26, qj a0.At.X), (25, qp 1 2), (24, qp 1 2), (23, qs (r2 ++ r3))] [] (.bind (og := F65 n (IntKind.wrap .u64 a0.At.X)) ⟨some 28, POp.call false [[]] 65 [Operand.tmp 27], none, [(27, Hint.imm)]⟩ (fun r4 => [(28, qs r4)]) (fun r4 => []) (by kernel_rfl) (fun r4 hr => pOp_eff (by kernel_rfl) (by kernel_rfl) (eff_call (ARGS := [.one (li .u64 (IntKind.wrap .u64 a0.At.X))]) (by kernel_rfl) (args_clean (by kernel_rfl) args_nil) (F65_ok n (IntKind.wrap .u64 a0.At.X) r4 hr) (by kernel_rfl))) (fun r4 => ?_)))
      refine SimI.rn 4 [(32, .one (li .u64 (IntKind.wrap .u64 a0.At.Y))), (31, qj a0.At.Y), (30, qp 1 3), (29, qp 1 2)] [] (.bind (og := F65 n (IntKind.wrap .u64 a0.At.Y)) ⟨some 33, POp.call false [[]] 65 [Operand.tmp 32], none, [(32, Hint.imm)]⟩ (fun r5 => [(33, qs r5)]) (fun r5 => []) (by kernel_rfl) (fun r5 hr => pOp_eff (by kernel_rfl) (by kernel_rfl) (eff_call (ARGS := [.one (li .u64 (IntKind.wrap .u64 a0.At.Y))]) (by kernel_rfl) (args_clean (by kernel_rfl) args_nil) (F65_ok n (IntKind.wrap .u64 a0.At.Y) r5 hr) (by kernel_rfl))) (fun r5 => ?_))
      refine SimI.guard (c := r4.size + r5.size ≤ 9223372036854775807) ⟨some 34, POp.prim (Prim.bin BinOp.add 9 false false) [Operand.tmp 28, Operand.tmp 33], none, [(28, Hint.imm), (33, Hint.imm)]⟩ [(34, qs (r4 ++ r5))] [] (by kernel_rfl) (fun hc => pOp_eff (by kernel_rfl) (by kernel_rfl) (eff_prim (by kernel_rfl) (pr_addS _ _ _ r4 r5 hc))) (.guard (c := (r2 ++ r3).size + (r4 ++ r5).size ≤ 9223372036854775807) ⟨some 35, POp.prim (Prim.bin BinOp.add 9 false false) [Operand.tmp 23, Operand.tmp 34], none, [(23, Hint.imm), (34, Hint.imm)]⟩ [(35, qs ((r2 ++ r3) ++ (r4 ++ r5)))] [] (by kernel_rfl) (fun hc => pOp_eff (by kernel_rfl) (by kernel_rfl) (eff_prim (by kernel_rfl) (pr_addS _ _ _ (r2 ++ r3) (r4 ++ r5) hc))) (.rd 1 [(4, qs ((r2 ++ r3) ++ (r4 ++ r5)))] [] (.thenN (.pr [1, 4] [1] [] [(1, qp 1 0), (4, qs ((r2 ++ r3) ++ (r4 ++ r5)))] [(1, some (.cells (Delta.cells a0)))] ?_))))
      exact F63_j7_ok n a0 ((r2 ++ r3) ++ (r4 ++ r5))
    · refine Sim.skip (.thenN (.pr [1, 4] [1] [] [(1, qp 1 0), (4, qs (r2 ++ r3))] [(1, some (.cells (Delta.cells a0)))] ?_))
      exact F63_j7_ok n a0 (r2 ++ r3)


-- 21: vedette/thing.Bytes
def F21_e : (ByteArray × Int) → PV × List Ob := fun r => (.tup [.one (ls r.1), .one (li .i64 r.2)], [])
def F21 (n : Nat) (a0 : Thing) : Option (ByteArray × Int) :=
  (F24 n a0).bind fun (r1 : Bool) =>
  if !(r1) then
    some (ByteArray.empty, 11)
  else
    (F63 n (Delta.mk a0.ID 31 a0.At a0.F)).bind fun (r2 : (ByteArray × Int)) =>
    some (r2.1, r2.2)
theorem F21_ok (n : Nat) (a0 : Thing) : ∀ r, F21 n a0 = some r → D 21 [.agg (Thing.cells a0)] [] = some (F21_e r) := by
  refine fn_to (D := D) (n := n + 8) (nt := 17) (rs := pc21_r) (c := pc21_c13) (L := [(0, .agg (Thing.cells a0))]) (M := []) (k := 0) rfl rfl rfl rfl rfl rfl rfl ?_
  unfold F21
  refine Sim.sr 3 [(3, qj 0), (2, qs be), (1, qp 1 0)] [(1, some (.cells (Thing.cells a0)))] (.seq (.st 1 [(4, .agg (Thing.cells a0))] [] (.cl 5 true [[]] 24 [Operand.tmp 4] none (fun r1 => qb r1) [.agg (Thing.cells a0)] (F24_ok n a0) (fun r1 => ?_))))
  refine SimI.rd 1 [(6, qb (!(r1)))] [] (.thenN (.cond (!(r1)) (by kernel_rfl) ?_ ?_))
  · exact Sim.sr 2 [(3, qj 11), (2, qs be)] [] (.ret (.thenR .fn))
  · refine Sim.skip (.thenN (.st 7 [(13, .agg [lj a0.ID, li .u8 31, lj a0.At.X, lj a0.At.Y, lj a0.F.a0.N, ls a0.F.a0.Text, lj a0.F.a1.N, ls a0.F.a1.Text, lj a0.F.a2.N, ls a0.F.a2.Text, lj a0.F.a3.N, ls a0.F.a3.Text]), (12, .agg (A4_Field.cells a0.F)), (11, qp 1 3), (10, .agg [lj a0.At.X, lj a0.At.Y]), (9, qp 1 1), (8, qj a0.ID), (7, qp 1 0)] [] (.cl 14 true [[]] 63 [Operand.tmp 13] none (fun r2 => .tup [qs r2.1, qj r2.2]) [.agg [lj a0.ID, li .u8 31, lj a0.At.X, lj a0.At.Y, lj a0.F.a0.N, ls a0.F.a0.Text, lj a0.F.a1.N, ls a0.F.a1.Text, lj a0.F.a2.N, ls a0.F.a2.Text, lj a0.F.a3.N, ls a0.F.a3.Text]] (F63_ok n (Delta.mk a0.ID 31 a0.At a0.F)) (fun r2 => ?_))))
    exact SimI.rd 4 [(3, qj r2.2), (2, qs r2.1), (16, qj r2.2), (15, qs r2.1)] [] (.thenN (.ret .fn))


-- 82: vedette/event.one
def F82_e : ByteArray → PV × List Ob := fun r => (.one (ls r), [])
def F82_j5 (n : Nat) (a0 : Event) (s4 : ByteArray) : Option ByteArray :=
    (F65 n (IntKind.wrap .u64 a0.Kind)).bind fun (r6 : ByteArray) =>
    if r6.size + s4.size ≤ 9223372036854775807 then
      some (r6 ++ s4)
    else none
theorem F82_j5_ok (n : Nat) (a0 : Event) (s4 : ByteArray) : Sim Try.prog D (n + 8) pc82_c17 [(1, qp 1 0), (3, qs s4)] [(1, some (.cells (Event.cells a0)))] (F82_j5 n a0 s4) (QF false pc82_r 0 F82_e) := by
    unfold F82_j5
    refine Sim.seq (.rg [(1, qp 1 0), (3, qs s4)] [(1, some (.cells (Event.cells a0)))] (.rn 3 [(28, .one (li .u64 (IntKind.wrap .u64 a0.Kind))), (27, qj a0.Kind), (26, qp 1 0)] [] (.cl 29 true [[]] 65 [Operand.tmp 28] none (fun r6 => qs r6) [.one (li .u64 (IntKind.wrap .u64 a0.Kind))] (F65_ok n (IntKind.wrap .u64 a0.Kind)) (fun r6 => ?_))))
    exact SimI.rn 1 [(30, qs s4)] [] (.guard (c := r6.size + s4.size ≤ 9223372036854775807) ⟨some 31, POp.prim (Prim.bin BinOp.add 9 false false) [Operand.tmp 29, Operand.tmp 30], none, []⟩ [(31, qs (r6 ++ s4))] [] (by kernel_rfl) (fun hc => pOp_eff (by kernel_rfl) (by kernel_rfl) (eff_prim (by kernel_rfl) (pr_addS _ _ _ r6 s4 hc))) (.rd 1 [(2, qs (r6 ++ s4))] [] (.thenN (.ret .fn))))

def F82 (n : Nat) (a0 : Event) : Option ByteArray :=
  if a0.Kind == 1 then
    (F21 n a0.Thing).bind fun (r1 : (ByteArray × Int)) =>
    F82_j5 n a0 r1.1
  else
    if a0.Kind == 2 then
      (F63 n a0.Delta).bind fun (r2 : (ByteArray × Int)) =>
      F82_j5 n a0 r2.1
    else
      (F65 n (IntKind.wrap .u64 a0.ID)).bind fun (r3 : ByteArray) =>
      F82_j5 n a0 r3
theorem F82_ok (n : Nat) (a0 : Event) : ∀ r, F82 n a0 = some r → D 82 [.agg (Event.cells a0)] [] = some (F82_e r) := by
  refine fn_to (D := D) (n := n + 8) (nt := 32) (rs := pc82_r) (c := pc82_c20) (L := [(0, .agg (Event.cells a0))]) (M := []) (k := 0) rfl rfl rfl rfl rfl rfl rfl ?_
  unfold F82
  refine Sim.sr 2 [(2, qs be), (1, qp 1 0)] [(1, some (.cells (Event.cells a0)))] (.sr 1 [(3, qs be)] [] (.seq (.sr 2 [(5, qj a0.Kind), (4, qp 1 0)] [] (.block (.sr 2 [(10, qb (a0.Kind == 1)), (11, qb (a0.Kind == 1))] [] (.cond (a0.Kind == 1) (by kernel_rfl) ?_ ?_))))))
  · refine Sim.region0 (.rn 2 [(14, .agg (Thing.cells a0.Thing)), (13, qp 1 2)] [] (.cl 15 true [[]] 21 [Operand.tmp 14] none (fun r1 => .tup [qs r1.1, qj r1.2]) [.agg (Thing.cells a0.Thing)] (F21_ok n a0.Thing) (fun r1 => ?_)))
    refine SimI.rd 4 [(3, qs r1.1), (17, qj r1.2), (16, qs r1.1), (12, .tup [qs r1.1, qj r1.2])] [] (.blockN (.thenN (.pr [1, 3] [1] [] [(1, qp 1 0), (3, qs r1.1)] [(1, some (.cells (Event.cells a0)))] ?_)))
    exact F82_j5_ok n a0 r1.1
  · refine Sim.sr 2 [(18, qb (a0.Kind == 2)), (19, qb (a0.Kind == 2))] [] (.cond (a0.Kind == 2) (by kernel_rfl) ?_ ?_)
    · refine Sim.region0 (.rn 2 [(22, .agg (Delta.cells a0.Delta)), (21, qp 1 13)] [] (.cl 23 true [[]] 63 [Operand.tmp 22] none (fun r2 => .tup [qs r2.1, qj r2.2]) [.agg (Delta.cells a0.Delta)] (F63_ok n a0.Delta) (fun r2 => ?_)))
      refine SimI.rd 4 [(3, qs r2.1), (25, qj r2.2), (24, qs r2.1), (20, .tup [qs r2.1, qj r2.2])] [] (.blockN (.thenN (.pr [1, 3] [1] [] [(1, qp 1 0), (3, qs r2.1)] [(1, some (.cells (Event.cells a0)))] ?_)))
      exact F82_j5_ok n a0 r2.1
    · refine Sim.region0 (.rn 3 [(8, .one (li .u64 (IntKind.wrap .u64 a0.ID))), (7, qj a0.ID), (6, qp 1 1)] [] (.cl 9 true [[]] 65 [Operand.tmp 8] none (fun r3 => qs r3) [.one (li .u64 (IntKind.wrap .u64 a0.ID))] (F65_ok n (IntKind.wrap .u64 a0.ID)) (fun r3 => ?_)))
      refine SimI.rd 1 [(3, qs r3)] [] (.blockN (.thenN (.pr [1, 3] [1] [] [(1, qp 1 0), (3, qs r3)] [(1, some (.cells (Event.cells a0)))] ?_)))
      exact F82_j5_ok n a0 r3


-- 46: vedette/event.Bytes
def F46_e : (ByteArray × Int) → PV × List Ob := fun r => (.tup [.one (ls r.1), .one (li .i64 r.2)], [])
def F46_l10 (n : Nat) (a0 : (List Event)) : Nat → Int → (List Int) → Option (ByteArray × Int)
  | 0, _, _ => none
  | m + 1, ii8, l9 =>
    if decide (ii8 < ((a0).length : Int)) then
      (ix a0 ii8).bind fun (x11 : Event) =>
      (F82 n x11).bind fun (r12 : ByteArray) =>
      (bldAdd l9 r12).bind fun (l13 : (List Int)) =>
      (F46_l10 n a0 m) (IntKind.wrap .i64 (ii8 + 1)) l13
    else
      (bldStr l9).bind fun (s14 : ByteArray) =>
      some (s14, 0)
theorem F46_l10_ok (n : Nat) (a0 : (List Event)) : ∀ (m : Nat) (ii8 : Int) (l9 : (List Int)), SimL Try.prog D (n + 8) m pc46_c30 [(4, qp 4 0), (17, .one (vw Event.cod a0)), (18, qj ((a0).length : Int)), (19, qj ii8)] [(4, some (.tcells 96 [.ptr 4 0, .osl 400032 0 0 (l9).length])), (400032, some (.arr 5 (codI .u8).sz 0 (l9).length (getOf (codI .u8) l9)))] (F46_l10 n a0 m ii8 l9) (QB 0 (QT Try.prog D (n + 8) pc46_c36 (QF false pc46_r 0 F46_e))) := by
  intro m_l10
  induction m_l10 with
  | zero => intro ii8 l9; exact SimL.zero'  rfl
  | succ m_l10 ih_l10 =>
    intro ii8 l9
    refine SimL.succ ?_
    unfold F46_l10
    refine Sim.seq (.rg [(4, qp 4 0), (17, .one (vw Event.cod a0)), (18, qj ((a0).length : Int)), (19, qj ii8)] [(4, some (.tcells 96 [.ptr 4 0, .osl 400032 0 0 (l9).length])), (400032, some (.arr 5 (codI .u8).sz 0 (l9).length (getOf (codI .u8) l9)))] (.rd 1 [(20, qb (decide (ii8 < ((a0).length : Int))))] [] (.thenN (.seq (.cond (decide (ii8 < ((a0).length : Int))) (by kernel_rfl) ?_ ?_)))))
    · refine Sim.skip (.thenN (.seq (.block (.seq (.region0 (.bind (og := ix a0 ii8) ⟨some 21, POp.iaddrS 25 (Operand.tmp 17) (Operand.tmp 19), none, []⟩ (fun x11 => [(21, .one (.eptr (Event.cod.enc x11) 0))]) (fun x11 => []) (by kernel_rfl) (fun x11 hr => pOp_eff (by kernel_rfl) (by kernel_rfl) (eff_idx (c := Event.cod) (l := a0) (k := .i64) (n := ii8) (by kernel_rfl) (by kernel_rfl) (by kernel_rfl) hr)) (fun x11 => ?_)))))))
      refine SimI.rd 3 [(6, qp 6 0), (22, .agg (Event.cells x11))] [(6, some (.cells (Event.cells x11))), (6, some (.cells [lj 0, lj 0, lj 0, lj 0, lj 0, lj 0, ls be, lj 0, ls be, lj 0, ls be, lj 0, ls be, lj 0, li .u8 0, lj 0, lj 0, lj 0, ls be, lj 0, ls be, lj 0, ls be, lj 0, ls be]))] (.thenN (.region0 (.rn 1 [(23, .agg (Event.cells x11))] [] (.cl 24 true [[]] 82 [Operand.tmp 23] none (fun r12 => qs r12) [.agg (Event.cells x11)] (F82_ok n x11) (fun r12 => ?_)))))
      refine SimI.bind (og := bldAdd l9 r12) ⟨some 25, POp.gcall false false [4, 300000, 300001, 300002, 300003, 300004, 300005, 300006, 300007, 400032] [[(1, 1)], []] 64 [Operand.tmp 4, Operand.tmp 24], none, []⟩ (fun l13 => [(25, .tup [qj (r12.size : Int), .one (.val (.nilIface))])]) (fun l13 => [(4, some (.tcells 96 [.ptr 4 0, .osl 400032 (0 + 1) 0 (l13).length])), (400032, some (.arr 5 (codI .u8).sz (0 + 1) (l13).length (getOf (codI .u8) l13)))]) (by kernel_rfl) (fun l13 hr => pOp_eff (by kernel_rfl) (by kernel_rfl) (eff_gcall (ks := [4, 400032]) (rks := []) (new := []) (ARGS := [qp 4 0, qs r12]) (args1 := [qp 4 0, qs r12]) (args2 := [qp 1000000 0, qs r12]) (os := [.tcells 96 [.ptr 1000000 0, .osl 1000001 0 0 (l9).length], .arr 5 (codI .u8).sz 0 (l9).length (getOf (codI .u8) l9)]) (os' := [.tcells 96 [.ptr 1000000 0, .osl 1000001 1 0 (l13).length], .arr 5 (codI .u8).sz 1 (l13).length (getOf (codI .u8) l13)]) (os1 := [.tcells 96 [.ptr 1000000 0, .osl 1000001 1 0 (l13).length], .arr 5 (codI .u8).sz 1 (l13).length (getOf (codI .u8) l13)]) (res := .tup [qj (r12.size : Int), .one (.val (.nilIface))]) (res1 := .tup [qj (r12.size : Int), .one (.val (.nilIface))]) (r := .tup [qj (r12.size : Int), .one (.val (.nilIface))]) (N := [(4, some (.tcells 96 [.ptr 4 0, .osl 400032 (0 + 1) 0 (l13).length])), (400032, some (.arr 5 (codI .u8).sz (0 + 1) (l13).length (getOf (codI .u8) l13)))]) (by kernel_rfl) (readA_ow (readA_keep (by kernel_rfl) (readA_keep (by kernel_rfl) (readA_nil)))) (by kernel_rfl) (by kernel_rfl) (by kernel_rfl) (by kernel_rfl) (D_add (a := .ptr 1000000 0) (by kernel_rfl) (l := l9) (s := r12) l13 hr) (by kernel_rfl) (by kernel_rfl) (by kernel_rfl) rfl (by kernel_rfl) (by kernel_rfl) (by kernel_rfl))) (fun l13 => ?_)
      refine SimI.dn (.blockN (.thenN (.region0 (.rd 2 [(19, qj (IntKind.wrap .i64 (ii8 + 1))), (26, qj (IntKind.wrap .i64 (ii8 + 1)))] [] (.loopN (.pr [4, 17, 18, 19] [4, 6, 400032] [] [(4, qp 4 0), (17, .one (vw Event.cod a0)), (18, qj ((a0).length : Int)), (19, qj (IntKind.wrap .i64 (ii8 + 1)))] [(4, some (.tcells 96 [.ptr 4 0, .osl 400032 0 0 (l13).length])), (400032, some (.arr 5 (codI .u8).sz 0 (l13).length (getOf (codI .u8) l13)))] ?_))))))
      exact ih_l10 (IntKind.wrap .i64 (ii8 + 1)) l13
    · refine Sim.exit (.thenX (.loopX (.blockX (.thenN (.seq (.region0 (.bind (og := bldStr l9) ⟨some 27, POp.gcall false false [4, 300000, 300001, 300002, 300003, 300004, 300005, 300006, 300007, 400032] [[(1, 1)]] 66 [Operand.tmp 4], none, []⟩ (fun s14 => [(27, qs s14)]) (fun s14 => [(4, some (.tcells 96 [.ptr 4 0, .osl 400032 (0 + 0) 0 (l9).length])), (400032, some (.arr 5 (codI .u8).sz (0 + 1) (([] : List Int)).length (getOf (codI .u8) ([] : List Int))))]) (by kernel_rfl) (fun s14 hr => pOp_eff (by kernel_rfl) (by kernel_rfl) (eff_gcall (ks := [4, 400032]) (rks := []) (new := []) (ARGS := [qp 4 0]) (args1 := [qp 4 0]) (args2 := [qp 1000000 0]) (os := [.tcells 96 [.ptr 1000000 0, .osl 1000001 0 0 (l9).length], .arr 5 (codI .u8).sz 0 (l9).length (getOf (codI .u8) l9)]) (os' := [.tcells 96 [.ptr 1000000 0, .osl 1000001 0 0 (l9).length], .arr 5 (codI .u8).sz 1 (([] : List Int)).length (getOf (codI .u8) ([] : List Int))]) (os1 := [.tcells 96 [.ptr 1000000 0, .osl 1000001 0 0 (l9).length], .arr 5 (codI .u8).sz 1 (([] : List Int)).length (getOf (codI .u8) ([] : List Int))]) (res := qs s14) (res1 := qs s14) (r := qs s14) (N := [(4, some (.tcells 96 [.ptr 4 0, .osl 400032 (0 + 0) 0 (l9).length])), (400032, some (.arr 5 (codI .u8).sz (0 + 1) (([] : List Int)).length (getOf (codI .u8) ([] : List Int))))]) (by kernel_rfl) (readA_ow (readA_keep (by kernel_rfl) (readA_nil))) (by kernel_rfl) (by kernel_rfl) (by kernel_rfl) (by kernel_rfl) (D_str (a := .ptr 1000000 0) (by kernel_rfl) (l := l9) s14 hr) (by kernel_rfl) (by kernel_rfl) (by kernel_rfl) rfl (by kernel_rfl) (by kernel_rfl) (by kernel_rfl))) (fun s14 => ?_))))))))
      exact SimI.rd 2 [(3, qj 0), (2, qs s14)] [] (.thenN (.ret .fn))

def F46 (n : Nat) (a0 : (List Event)) : Option (ByteArray × Int) :=
  (F80s0 n a0).bind fun (r1 : Bool) =>
  if r1 then
    some (ByteArray.empty, 11)
  else
    if decide ((400 : Int) < ((a0).length : Int)) then
      some (ByteArray.empty, 13)
    else
      (F65 n (IntKind.wrap .u64 ((a0).length : Int))).bind fun (r2 : ByteArray) =>
      (bldAdd ([] : List Int) r2).bind fun (l3 : (List Int)) =>
      F46_l10 n a0 (n + 8) 0 l3
theorem F46_ok (n : Nat) (a0 : (List Event)) : ∀ r, F46 n a0 = some r → D 46 [.one (vw Event.cod a0)] [] = some (F46_e r) := by
  refine fn_to (D := D) (n := n + 8) (nt := 28) (rs := pc46_r) (c := pc46_c42) (L := [(0, .one (vw Event.cod a0))]) (M := []) (k := 0) rfl rfl rfl rfl rfl rfl rfl ?_
  unfold F46
  refine Sim.sr 2 [(3, qj 0), (2, qs be)] [] (.seq (.st 1 [(7, .one (vw Event.cod a0))] [] (.bind (og := F80s0 n a0) ⟨some 8, POp.gcall false false [300000, 300001, 300002, 300003, 300004, 300005, 300006, 300007] [[(0, 25)], []] 80 [Operand.tmp 7, Operand.func 81], none, []⟩ (fun r1 => [(8, qb r1)]) (fun r1 => []) (by kernel_rfl) (fun r1 hr => pOp_eff (by kernel_rfl) (by kernel_rfl) (eff_gcall (ks := []) (rks := []) (new := []) (ARGS := [.one (vw Event.cod a0), .one (.val (.func (.func 81) #[] #[]))]) (args1 := [.one (vw Event.cod a0), .one (.val (.func (.func 81) #[] #[]))]) (args2 := [.one (vw Event.cod a0), .one (.val (.func (.func 81) #[] #[]))]) (os := []) (os' := []) (os1 := []) (res := qb r1) (res1 := qb r1) (r := qb r1) (N := []) (by kernel_rfl) (readA_ow (readA_keep (by kernel_rfl) (readA_keep (by kernel_rfl) (readA_nil)))) (by kernel_rfl) (by kernel_rfl) (by kernel_rfl) (by kernel_rfl) (F80s0_ok n a0 r1 hr) (by kernel_rfl) (by kernel_rfl) (by kernel_rfl) rfl (by kernel_rfl) (by kernel_rfl) (by kernel_rfl))) (fun r1 => ?_))))
  refine SimI.dn (.thenN (.cond r1 (by kernel_rfl) ?_ ?_))
  · exact Sim.sr 2 [(3, qj 11), (2, qs be)] [] (.ret (.thenR .fn))
  · refine Sim.skip (.thenN (.seq (.sr 3 [(11, qb (decide ((400 : Int) < ((a0).length : Int)))), (10, qj ((a0).length : Int)), (9, .one (vw Event.cod a0))] [] (.cond (decide ((400 : Int) < ((a0).length : Int))) (by kernel_rfl) ?_ ?_))))
    · exact Sim.sr 2 [(3, qj 13), (2, qs be)] [] (.ret (.thenR .fn))
    · refine Sim.skip (.thenN (.sr 1 [(4, qp 4 0)] [(4, some (.tcells 96 [.val (.pointer none), .osl 400032 0 0 (([] : List Int)).length])), (400032, some (.arr 5 (codI .u8).sz 0 (([] : List Int)).length (getOf (codI .u8) ([] : List Int))))] (.st 3 [(14, .one (li .u64 (IntKind.wrap .u64 ((a0).length : Int)))), (13, qj ((a0).length : Int)), (12, .one (vw Event.cod a0))] [] (.cl 15 true [[]] 65 [Operand.tmp 14] none (fun r2 => qs r2) [.one (li .u64 (IntKind.wrap .u64 ((a0).length : Int)))] (F65_ok n (IntKind.wrap .u64 ((a0).length : Int))) (fun r2 => ?_)))))
      refine SimI.bind (og := bldAdd ([] : List Int) r2) ⟨some 16, POp.gcall false false [4, 300000, 300001, 300002, 300003, 300004, 300005, 300006, 300007, 400032] [[(1, 1)], []] 64 [Operand.tmp 4, Operand.tmp 15], none, []⟩ (fun l3 => [(16, .tup [qj (r2.size : Int), .one (.val (.nilIface))])]) (fun l3 => [(4, some (.tcells 96 [.ptr 4 0, .osl 400032 (0 + 1) 0 (l3).length])), (400032, some (.arr 5 (codI .u8).sz (0 + 1) (l3).length (getOf (codI .u8) l3)))]) (by kernel_rfl) (fun l3 hr => pOp_eff (by kernel_rfl) (by kernel_rfl) (eff_gcall (ks := [4, 400032]) (rks := []) (new := []) (ARGS := [qp 4 0, qs r2]) (args1 := [qp 4 0, qs r2]) (args2 := [qp 1000000 0, qs r2]) (os := [.tcells 96 [.val (.pointer none), .osl 1000001 0 0 (([] : List Int)).length], .arr 5 (codI .u8).sz 0 (([] : List Int)).length (getOf (codI .u8) ([] : List Int))]) (os' := [.tcells 96 [.ptr 1000000 0, .osl 1000001 1 0 (l3).length], .arr 5 (codI .u8).sz 1 (l3).length (getOf (codI .u8) l3)]) (os1 := [.tcells 96 [.ptr 1000000 0, .osl 1000001 1 0 (l3).length], .arr 5 (codI .u8).sz 1 (l3).length (getOf (codI .u8) l3)]) (res := .tup [qj (r2.size : Int), .one (.val (.nilIface))]) (res1 := .tup [qj (r2.size : Int), .one (.val (.nilIface))]) (r := .tup [qj (r2.size : Int), .one (.val (.nilIface))]) (N := [(4, some (.tcells 96 [.ptr 4 0, .osl 400032 (0 + 1) 0 (l3).length])), (400032, some (.arr 5 (codI .u8).sz (0 + 1) (l3).length (getOf (codI .u8) l3)))]) (by kernel_rfl) (readA_ow (readA_keep (by kernel_rfl) (readA_keep (by kernel_rfl) (readA_nil)))) (by kernel_rfl) (by kernel_rfl) (by kernel_rfl) (by kernel_rfl) (D_add (a := .val (.pointer none)) (by kernel_rfl) (l := ([] : List Int)) (s := r2) l3 hr) (by kernel_rfl) (by kernel_rfl) (by kernel_rfl) rfl (by kernel_rfl) (by kernel_rfl) (by kernel_rfl))) (fun l3 => ?_)
      refine SimI.dn (.thenN (.seq (.sr 3 [(19, qj 0), (18, qj ((a0).length : Int)), (17, .one (vw Event.cod a0))] [] (.block (.loop (.pr [4, 17, 18, 19] [4, 6, 400032] [] [(4, qp 4 0), (17, .one (vw Event.cod a0)), (18, qj ((a0).length : Int)), (19, qj 0)] [(4, some (.tcells 96 [.ptr 4 0, .osl 400032 0 0 (l3).length])), (400032, some (.arr 5 (codI .u8).sz 0 (l3).length (getOf (codI .u8) l3)))] ?_))))))
      exact F46_l10_ok n a0 (n + 8) 0 l3


-- 73: vedette/num.Get
def F73_e : (Int × Int × Int) → PV × List Ob := fun r => (.tup [.one (li .u64 r.1), .one (li .i64 r.2.1), .one (li .i64 r.2.2)], [])
def F73_j13 (n : Nat) (i11 : Int) (i12 : Int) : Option (Int × Int × Int) :=
    if i12 == 0 then
      some (0, 0, 10)
    else
      some (i11, i12, 0)
theorem F73_j13_ok (n : Nat) (i11 : Int) (i12 : Int) : Sim Try.prog D (n + 8) pc73_c51 [(5, .one (li .u64 i11)), (6, qj i12)] [] (F73_j13 n i11 i12) (QF false pc73_r 0 F73_e) := by
    unfold F73_j13
    refine Sim.seq (.seq (.rg [(5, .one (li .u64 i11)), (6, qj i12)] [] (.rd 2 [(52, qb (i12 == 0)), (51, qj i12)] [] (.thenN (.cond (i12 == 0) (by kernel_rfl) ?_ ?_)))))
    · exact Sim.sr 3 [(4, qj 10), (3, qj 0), (2, .one (li .u64 0))] [] (.ret (.thenR .fn))
    · exact Sim.skip (.thenN (.sr 5 [(4, qj 0), (3, qj i12), (2, .one (li .u64 i11)), (54, qj i12), (53, .one (li .u64 i11))] [] (.ret .fn)))

def F73_j10 (n : Nat) (i5 : Int) (i6 : Int) (x8 : Int) (rec_l7 : Int → Int → Option (Int × Int × Int)) : Option (Int × Int × Int) :=
    if decide (x8 < 128) then
      if ¬ (IntKind.wrap .i64 (7 * i6) < 0) then
        F73_j13 n (bitsI .or .u64 i5 (shlI .u64 (IntKind.wrap .u64 x8) (IntKind.wrap .i64 (7 * i6)))) (IntKind.wrap .i64 (i6 + 1))
      else none
    else
      if ¬ (IntKind.wrap .i64 (7 * i6) < 0) then
        rec_l7 (bitsI .or .u64 i5 (shlI .u64 (IntKind.wrap .u64 (bitsI .andNot .u8 x8 128)) (IntKind.wrap .i64 (7 * i6)))) (IntKind.wrap .i64 (i6 + 1))
      else none
theorem F73_j10_ok (n : Nat) (a0 : ByteArray) (i5 : Int) (i6 : Int) (x8 : Int) (rec_l7 : Int → Int → Option (Int × Int × Int)) (m_l7 : Nat) (ih_l7 : ∀ (i5 : Int) (i6 : Int), SimL Try.prog D (n + 8) m_l7 pc73_c37 [(5, .one (li .u64 i5)), (6, qj 0), (10, .one (vw (codI .u8) (bytesL a0))), (11, qj ((bytesL a0).length : Int)), (12, qj i6)] [] (rec_l7 i5 i6) (QB 0 (QT Try.prog D (n + 8) pc73_c51 (QF false pc73_r 0 F73_e)))) : Sim Try.prog D (n + 8) pc73_c26 [(5, .one (li .u64 i5)), (6, qj 0), (7, qj i6), (8, .one (li .u8 x8)), (10, .one (vw (codI .u8) (bytesL a0))), (11, qj ((bytesL a0).length : Int)), (12, qj i6)] [] (F73_j10 n i5 i6 x8 rec_l7) (QB 2 (QT Try.prog D (n + 8) pc73_c30 (QB 1 (QT Try.prog D (n + 8) pc73_c34 (QL Try.prog D (n + 8) m_l7 pc73_c37 (QB 0 (QT Try.prog D (n + 8) pc73_c51 (QF false pc73_r 0 F73_e)))))))) := by
    unfold F73_j10
    refine Sim.seq (.rg [(5, .one (li .u64 i5)), (6, qj 0), (7, qj i6), (8, .one (li .u8 x8)), (10, .one (vw (codI .u8) (bytesL a0))), (11, qj ((bytesL a0).length : Int)), (12, qj i6)] [] (.rd 3 [(30, qb (decide (x8 < 128))), (32, qb (decide (x8 < 128))), (31, .one (li .u8 x8))] [] (.thenN (.cond (decide (x8 < 128)) (by kernel_rfl) ?_ ?_))))
    · refine Sim.st 5 [(37, qj (IntKind.wrap .i64 (7 * i6))), (36, qj i6), (35, .one (li .u64 (IntKind.wrap .u64 x8))), (34, .one (li .u8 x8)), (33, .one (li .u64 i5))] [] (.guard (c := ¬ (IntKind.wrap .i64 (7 * i6) < 0)) ⟨some 38, POp.prim (Prim.bin BinOp.shl 89 false false) [Operand.tmp 35, Operand.tmp 37], none, []⟩ [(38, .one (li .u64 (shlI .u64 (IntKind.wrap .u64 x8) (IntKind.wrap .i64 (7 * i6)))))] [] (by kernel_rfl) (fun hc => pOp_eff (by kernel_rfl) (by kernel_rfl) (eff_prim (by kernel_rfl) (pr_shl _ _ _ .u64 .i64 (IntKind.wrap .u64 x8) (IntKind.wrap .i64 (7 * i6)) hc))) (.rd 2 [(5, .one (li .u64 (bitsI .or .u64 i5 (shlI .u64 (IntKind.wrap .u64 x8) (IntKind.wrap .i64 (7 * i6)))))), (39, .one (li .u64 (bitsI .or .u64 i5 (shlI .u64 (IntKind.wrap .u64 x8) (IntKind.wrap .i64 (7 * i6))))))] [] (.thenN (.sr 3 [(6, qj (IntKind.wrap .i64 (i6 + 1))), (41, qj (IntKind.wrap .i64 (i6 + 1))), (40, qj i6)] [] (.exit (.blockY rfl (.thenX (.blockY rfl (.thenX (.loopX (.blockX (.thenN (.pr [5, 6] [] [] [(5, .one (li .u64 (bitsI .or .u64 i5 (shlI .u64 (IntKind.wrap .u64 x8) (IntKind.wrap .i64 (7 * i6)))))), (6, qj (IntKind.wrap .i64 (i6 + 1)))] [] ?_)))))))))))))
      exact F73_j13_ok n (bitsI .or .u64 i5 (shlI .u64 (IntKind.wrap .u64 x8) (IntKind.wrap .i64 (7 * i6)))) (IntKind.wrap .i64 (i6 + 1))
    · refine Sim.skip (.blockN (.thenN (.region0 (.rn 6 [(47, qj (IntKind.wrap .i64 (7 * i6))), (46, qj i6), (45, .one (li .u64 (IntKind.wrap .u64 (bitsI .andNot .u8 x8 128)))), (44, .one (li .u8 (bitsI .andNot .u8 x8 128))), (43, .one (li .u8 x8)), (42, .one (li .u64 i5))] [] (.guard (c := ¬ (IntKind.wrap .i64 (7 * i6) < 0)) ⟨some 48, POp.prim (Prim.bin BinOp.shl 89 false false) [Operand.tmp 45, Operand.tmp 47], none, []⟩ [(48, .one (li .u64 (shlI .u64 (IntKind.wrap .u64 (bitsI .andNot .u8 x8 128)) (IntKind.wrap .i64 (7 * i6)))))] [] (by kernel_rfl) (fun hc => pOp_eff (by kernel_rfl) (by kernel_rfl) (eff_prim (by kernel_rfl) (pr_shl _ _ _ .u64 .i64 (IntKind.wrap .u64 (bitsI .andNot .u8 x8 128)) (IntKind.wrap .i64 (7 * i6)) hc))) (.rd 2 [(5, .one (li .u64 (bitsI .or .u64 i5 (shlI .u64 (IntKind.wrap .u64 (bitsI .andNot .u8 x8 128)) (IntKind.wrap .i64 (7 * i6)))))), (49, .one (li .u64 (bitsI .or .u64 i5 (shlI .u64 (IntKind.wrap .u64 (bitsI .andNot .u8 x8 128)) (IntKind.wrap .i64 (7 * i6))))))] [] (.blockN (.thenN (.region0 (.rd 2 [(12, qj (IntKind.wrap .i64 (i6 + 1))), (50, qj (IntKind.wrap .i64 (i6 + 1)))] [] (.loopN (.pr [5, 6, 10, 11, 12] [] [] [(5, .one (li .u64 (bitsI .or .u64 i5 (shlI .u64 (IntKind.wrap .u64 (bitsI .andNot .u8 x8 128)) (IntKind.wrap .i64 (7 * i6)))))), (6, qj 0), (10, .one (vw (codI .u8) (bytesL a0))), (11, qj ((bytesL a0).length : Int)), (12, qj (IntKind.wrap .i64 (i6 + 1)))] [] ?_))))))))))))
      exact ih_l7 (bitsI .or .u64 i5 (shlI .u64 (IntKind.wrap .u64 (bitsI .andNot .u8 x8 128)) (IntKind.wrap .i64 (7 * i6)))) (IntKind.wrap .i64 (i6 + 1))

def F73_j9 (n : Nat) (i5 : Int) (i6 : Int) (x8 : Int) (rec_l7 : Int → Int → Option (Int × Int × Int)) : Option (Int × Int × Int) :=
    if decide ((0 : Int) < i6) then
      if x8 == 0 then
        some (0, 0, 11)
      else
        F73_j10 n i5 i6 x8 rec_l7
    else
      F73_j10 n i5 i6 x8 rec_l7
theorem F73_j9_ok (n : Nat) (a0 : ByteArray) (i5 : Int) (i6 : Int) (x8 : Int) (rec_l7 : Int → Int → Option (Int × Int × Int)) (m_l7 : Nat) (ih_l7 : ∀ (i5 : Int) (i6 : Int), SimL Try.prog D (n + 8) m_l7 pc73_c37 [(5, .one (li .u64 i5)), (6, qj 0), (10, .one (vw (codI .u8) (bytesL a0))), (11, qj ((bytesL a0).length : Int)), (12, qj i6)] [] (rec_l7 i5 i6) (QB 0 (QT Try.prog D (n + 8) pc73_c51 (QF false pc73_r 0 F73_e)))) : Sim Try.prog D (n + 8) pc73_c12 [(5, .one (li .u64 i5)), (6, qj 0), (7, qj i6), (8, .one (li .u8 x8)), (10, .one (vw (codI .u8) (bytesL a0))), (11, qj ((bytesL a0).length : Int)), (12, qj i6)] [] (F73_j9 n i5 i6 x8 rec_l7) (QT Try.prog D (n + 8) pc73_c27 (QB 2 (QT Try.prog D (n + 8) pc73_c30 (QB 1 (QT Try.prog D (n + 8) pc73_c34 (QL Try.prog D (n + 8) m_l7 pc73_c37 (QB 0 (QT Try.prog D (n + 8) pc73_c51 (QF false pc73_r 0 F73_e))))))))) := by
    unfold F73_j9
    refine Sim.rg [(5, .one (li .u64 i5)), (6, qj 0), (7, qj i6), (8, .one (li .u8 x8)), (10, .one (vw (codI .u8) (bytesL a0))), (11, qj ((bytesL a0).length : Int)), (12, qj i6)] [] (.rn 3 [(26, qb (decide ((0 : Int) < i6))), (25, qb (decide ((0 : Int) < i6))), (24, qj i6)] [] (.split 26 (decide ((0 : Int) < i6)) (by kernel_rfl) ?_ ?_))
    · refine SimI.rd 4 [(17, qb (x8 == 0)), (29, qb (x8 == 0)), (28, qb (x8 == 0)), (27, .one (li .u8 x8))] [] (.thenN (.cond (x8 == 0) (by kernel_rfl) ?_ ?_))
      · exact Sim.sr 3 [(4, qj 11), (3, qj 0), (2, .one (li .u64 0))] [] (.ret (.blockR (.thenR (.blockR (.thenR (.loopR (.blockR (.thenR .fn))))))))
      · refine Sim.pr [5, 6, 7, 8, 10, 11, 12] [] [] [(5, .one (li .u64 i5)), (6, qj 0), (7, qj i6), (8, .one (li .u8 x8)), (10, .one (vw (codI .u8) (bytesL a0))), (11, qj ((bytesL a0).length : Int)), (12, qj i6)] [] ?_
        exact F73_j10_ok n a0 i5 i6 x8 rec_l7 m_l7 ih_l7
    · refine SimI.rd 4 [(17, qb false), (29, qb false), (28, .tup []), (27, .tup [])] [] (.thenN (.condF (by kernel_rfl) (.pr [5, 6, 7, 8, 10, 11, 12] [] [] [(5, .one (li .u64 i5)), (6, qj 0), (7, qj i6), (8, .one (li .u8 x8)), (10, .one (vw (codI .u8) (bytesL a0))), (11, qj ((bytesL a0).length : Int)), (12, qj i6)] [] ?_)))
      exact F73_j10_ok n a0 i5 i6 x8 rec_l7 m_l7 ih_l7

def F73_l7 (n : Nat) (a0 : ByteArray) : Nat → Int → Int → Option (Int × Int × Int)
  | 0, _, _ => none
  | m + 1, i5, i6 =>
    if decide (i6 < ((bytesL a0).length : Int)) then
      (ix (bytesL a0) i6).bind fun (x8 : Int) =>
      if i6 == 9 then
        if decide ((1 : Int) < x8) then
          if decide ((1 : Int) < x8) then
            some (0, 0, 11)
          else
            F73_j10 n i5 i6 x8 (F73_l7 n a0 m)
        else
          F73_j9 n i5 i6 x8 (F73_l7 n a0 m)
      else
        F73_j9 n i5 i6 x8 (F73_l7 n a0 m)
    else
      F73_j13 n i5 0
theorem F73_l7_ok (n : Nat) (a0 : ByteArray) : ∀ (m : Nat) (i5 : Int) (i6 : Int), SimL Try.prog D (n + 8) m pc73_c37 [(5, .one (li .u64 i5)), (6, qj 0), (10, .one (vw (codI .u8) (bytesL a0))), (11, qj ((bytesL a0).length : Int)), (12, qj i6)] [] (F73_l7 n a0 m i5 i6) (QB 0 (QT Try.prog D (n + 8) pc73_c51 (QF false pc73_r 0 F73_e))) := by
  intro m_l7
  induction m_l7 with
  | zero => intro i5 i6; exact SimL.zero'  rfl
  | succ m_l7 ih_l7 =>
    intro i5 i6
    refine SimL.succ ?_
    unfold F73_l7
    refine Sim.seq (.rg [(5, .one (li .u64 i5)), (6, qj 0), (10, .one (vw (codI .u8) (bytesL a0))), (11, qj ((bytesL a0).length : Int)), (12, qj i6)] [] (.rd 1 [(13, qb (decide (i6 < ((bytesL a0).length : Int))))] [] (.thenN (.seq (.cond (decide (i6 < ((bytesL a0).length : Int))) (by kernel_rfl) ?_ ?_)))))
    · refine Sim.skip (.thenN (.seq (.block (.st 1 [(14, qj i6)] [] (.bind (og := ix (bytesL a0) i6) ⟨some 15, POp.iaddrS 1 (Operand.tmp 10) (Operand.tmp 12), none, []⟩ (fun x8 => [(15, .one (.eptr ((codI .u8).enc x8) 0))]) (fun x8 => []) (by kernel_rfl) (fun x8 hr => pOp_eff (by kernel_rfl) (by kernel_rfl) (eff_idx (c := (codI .u8)) (l := bytesL a0) (k := .i64) (n := i6) (by kernel_rfl) (by kernel_rfl) (by kernel_rfl) hr)) (fun x8 => ?_))))))
      refine SimI.rd 3 [(8, .one (li .u8 x8)), (7, qj i6), (16, .one (li .u8 x8))] [] (.thenN (.seq (.block (.seq (.st 3 [(20, qb (i6 == 9)), (19, qb (i6 == 9)), (18, qj i6)] [] (.split 20 (i6 == 9) (by kernel_rfl) ?_ ?_))))))
      · refine SimI.rd 4 [(17, qb (decide ((1 : Int) < x8))), (23, qb (decide ((1 : Int) < x8))), (22, qb (decide ((1 : Int) < x8))), (21, .one (li .u8 x8))] [] (.thenN (.cond (decide ((1 : Int) < x8)) (by kernel_rfl) ?_ ?_))
        · refine Sim.skip (.thenN (.cond (decide ((1 : Int) < x8)) (by kernel_rfl) ?_ ?_))
          · exact Sim.sr 3 [(4, qj 11), (3, qj 0), (2, .one (li .u64 0))] [] (.ret (.blockR (.thenR (.blockR (.thenR (.loopR (.blockR (.thenR .fn))))))))
          · refine Sim.pr [5, 6, 7, 8, 10, 11, 12] [] [] [(5, .one (li .u64 i5)), (6, qj 0), (7, qj i6), (8, .one (li .u8 x8)), (10, .one (vw (codI .u8) (bytesL a0))), (11, qj ((bytesL a0).length : Int)), (12, qj i6)] [] ?_
            exact F73_j10_ok n a0 i5 i6 x8 (F73_l7 n a0 m_l7) m_l7 ih_l7
        · refine Sim.pr [5, 6, 7, 8, 10, 11, 12] [] [] [(5, .one (li .u64 i5)), (6, qj 0), (7, qj i6), (8, .one (li .u8 x8)), (10, .one (vw (codI .u8) (bytesL a0))), (11, qj ((bytesL a0).length : Int)), (12, qj i6)] [] ?_
          exact F73_j9_ok n a0 i5 i6 x8 (F73_l7 n a0 m_l7) m_l7 ih_l7
      · refine SimI.rd 4 [(17, qb false), (23, qb false), (22, .tup []), (21, .tup [])] [] (.thenN (.condF (by kernel_rfl) (.pr [5, 6, 7, 8, 10, 11, 12] [] [] [(5, .one (li .u64 i5)), (6, qj 0), (7, qj i6), (8, .one (li .u8 x8)), (10, .one (vw (codI .u8) (bytesL a0))), (11, qj ((bytesL a0).length : Int)), (12, qj i6)] [] ?_)))
        exact F73_j9_ok n a0 i5 i6 x8 (F73_l7 n a0 m_l7) m_l7 ih_l7
    · refine Sim.exit (.thenX (.loopX (.blockX (.thenN (.pr [5, 6] [] [] [(5, .one (li .u64 i5)), (6, qj 0)] [] ?_)))))
      exact F73_j13_ok n i5 0

def F73 (n : Nat) (a0 : ByteArray) : Option (Int × Int × Int) :=
  F73_l7 n a0 (n + 8) 0 0
theorem F73_ok (n : Nat) (a0 : ByteArray) : ∀ r, F73 n a0 = some r → D 73 [.one (ls a0)] [] = some (F73_e r) := by
  refine fn_to (D := D) (n := n + 8) (nt := 55) (rs := pc73_r) (c := pc73_c56) (L := [(0, qs a0)]) (M := []) (k := 0) rfl rfl rfl rfl rfl rfl rfl ?_
  unfold F73
  refine Sim.sr 3 [(4, qj 0), (3, qj 0), (2, .one (li .u64 0))] [] (.scope (.sr 2 [(6, qj 0), (5, .one (li .u64 0))] [] (.seq (.label (.thenN (.seq (.st 1 [(9, qs a0)] [] (.step ⟨some 10, POp.s2b 5 (Operand.tmp 9), none, []⟩ [(10, .one (vw (codI .u8) (bytesL a0)))] [] (by kernel_rfl) (pOp_eff (by kernel_rfl) (by kernel_rfl) (eff_s2b (s := a0) (by kernel_rfl))) (.rd 2 [(12, qj 0), (11, qj ((bytesL a0).length : Int))] [] (.thenN (.block (.loop (.pr [5, 6, 10, 11, 12] [] [] [(5, .one (li .u64 0)), (6, qj 0), (10, .one (vw (codI .u8) (bytesL a0))), (11, qj ((bytesL a0).length : Int)), (12, qj 0)] [] ?_)))))))))))))
  exact F73_l7_ok n a0 (n + 8) 0 0


-- 116: (*vedette/fields.reader).took
def F116_e : Reader → PV × List Ob := fun r => (.tup [], [.cells (Reader.cells r)])
def F116 (n : Nat) (a0 : Reader) (a1 : Int) (a2 : Int) : Option Reader :=
  some (Reader.mk a0.s (IntKind.wrap .i64 (a0.at_ + a1)) a2)
theorem F116_ok (n : Nat) (a0 : Reader) (a1 : Int) (a2 : Int) : ∀ r, F116 n a0 a1 a2 = some r → D 116 [.one (.ptr 1000000 0), .one (li .i64 a1), .one (li .i64 a2)] [.cells (Reader.cells a0)] = some (F116_e r) := by
  refine fn_to (D := D) (n := n + 8) (nt := 18) (rs := pc116_r) (c := pc116_c3) (L := [(0, qp 1000000 0), (1, qj a1), (2, qj a2)]) (M := [(1000000, some (.cells (Reader.cells a0)))]) (k := 1) rfl rfl rfl rfl rfl rfl rfl ?_
  unfold F116
  exact Sim.sr 9 [(13, qp 1000000 1), (12, qp 1000000 0), (11, qj (IntKind.wrap .i64 (a0.at_ + a1))), (10, qj a1), (9, qj a0.at_), (8, qp 1000000 1), (7, qp 1000000 0), (6, qp 1000000 0)] [(1000000, some (.cells [ls a0.s, lj (IntKind.wrap .i64 (a0.at_ + a1)), lj a0.e]))] (.region0 (.rd 5 [(17, qp 1000000 2), (16, qp 1000000 0), (15, qj a2), (14, qp 1000000 0)] [(1000000, some (.cells [ls a0.s, lj (IntKind.wrap .i64 (a0.at_ + a1)), lj a2]))] (.finN (by kernel_rfl))))


-- 104: (*vedette/fields.reader).number
def F104_e : (Int × Reader) → PV × List Ob := fun r => (.one (li .i64 r.1), [.cells (Reader.cells r.2)])
def F104 (n : Nat) (a0 : Reader) : Option (Int × Reader) :=
  if a0.e != 0 then
    some (0, a0)
  else
    if 0 ≤ (a0.at_ : Int) ∧ (a0.at_ : Int) ≤ (a0.s.size : Int) then
      (F73 n (a0.s.extract a0.at_.toNat a0.s.size)).bind fun (r1 : (Int × Int × Int)) =>
      (F116 n a0 r1.2.1 r1.2.2).bind fun (r2 : Reader) =>
      some (IntKind.wrap .i64 (imin r1.1 1000001), r2)
    else none
theorem F104_ok (n : Nat) (a0 : Reader) : ∀ r, F104 n a0 = some r → D 104 [.one (.ptr 1000000 0)] [.cells (Reader.cells a0)] = some (F104_e r) := by
  refine fn_to (D := D) (n := n + 8) (nt := 32) (rs := pc104_r) (c := pc104_c17) (L := [(0, qp 1000000 0)]) (M := [(1000000, some (.cells (Reader.cells a0)))]) (k := 1) rfl rfl rfl rfl rfl rfl rfl ?_
  unfold F104
  refine Sim.sr 1 [(2, qj 0)] [] (.seq (.sr 5 [(10, qb (a0.e != 0)), (9, qj a0.e), (8, qp 1000000 2), (7, qp 1000000 0), (6, qp 1000000 0)] [] (.cond (a0.e != 0) (by kernel_rfl) ?_ ?_)))
  · exact Sim.sr 1 [(2, qj 0)] [] (.ret (.thenR .fn))
  · refine Sim.skip (.thenN (.st 8 [(19, qj a0.at_), (18, qp 1000000 1), (17, qp 1000000 0), (16, qp 1000000 0), (15, qs a0.s), (14, qp 1000000 0), (13, qp 1000000 0), (12, qp 1000000 0)] [] (.guard (c := 0 ≤ (a0.at_ : Int) ∧ (a0.at_ : Int) ≤ (a0.s.size : Int)) ⟨some 20, POp.prim (Prim.slice 9 true false) [Operand.tmp 15, Operand.tmp 19], none, [(15, Hint.imm), (19, Hint.imm)]⟩ [(20, qs (a0.s.extract a0.at_.toNat a0.s.size))] [] (by kernel_rfl) (fun hc => pOp_eff (by kernel_rfl) (by kernel_rfl) (eff_prim (by kernel_rfl) (pr_cutL (s := a0.s) (k := .i64) (a := a0.at_) Try.underlying9 hc))) (.bind (og := F73 n (a0.s.extract a0.at_.toNat a0.s.size)) ⟨some 21, POp.call false [[]] 73 [Operand.tmp 20], none, [(20, Hint.imm)]⟩ (fun r1 => [(21, .tup [.one (li .u64 r1.1), qj r1.2.1, qj r1.2.2])]) (fun r1 => []) (by kernel_rfl) (fun r1 hr => pOp_eff (by kernel_rfl) (by kernel_rfl) (eff_call (ARGS := [qs (a0.s.extract a0.at_.toNat a0.s.size)]) (by kernel_rfl) (args_clean (by kernel_rfl) args_nil) (F73_ok n (a0.s.extract a0.at_.toNat a0.s.size) r1 hr) (by kernel_rfl))) (fun r1 => ?_)))))
    refine SimI.rd 7 [(5, qj r1.2.2), (4, qj r1.2.1), (3, .one (li .u64 r1.1)), (24, qj r1.2.2), (23, qj r1.2.1), (22, .one (li .u64 r1.1)), (11, .tup [.one (li .u64 r1.1), qj r1.2.1, qj r1.2.2])] [] (.thenN (.st 3 [(27, qj r1.2.2), (26, qj r1.2.1), (25, qp 1000000 0)] [] (.bind (og := F116 n a0 r1.2.1 r1.2.2) ⟨some 28, POp.call true [[], [], []] 116 [Operand.tmp 25, Operand.tmp 26, Operand.tmp 27], none, []⟩ (fun r2 => [(28, .tup [])]) (fun r2 => [(1000000, some (.cells (Reader.cells r2)))]) (by kernel_rfl) (fun r2 hr => pOp_eff (by kernel_rfl) (by kernel_rfl) (eff_callp (ARGS := [qp 1000000 0, qj r1.2.1, qj r1.2.2]) (ARGS' := [qp 1000000 0, qj r1.2.1, qj r1.2.2]) (ks := [1000000]) (os := [(Reader.cells a0)]) (os' := [(Reader.cells r2)]) (by kernel_rfl) (args_ptr (by kernel_rfl) (args_clean (by kernel_rfl) (args_clean (by kernel_rfl) args_nil))) rfl (by kernel_rfl) (F116_ok n a0 r1.2.1 r1.2.2 r2 hr) (by kernel_rfl) (by kernel_rfl))) (fun r2 => ?_))))
    exact SimI.dn (.thenN (.sr 4 [(2, qj (IntKind.wrap .i64 (imin r1.1 1000001))), (31, qj (IntKind.wrap .i64 (imin r1.1 1000001))), (30, .one (li .u64 (imin r1.1 1000001))), (29, .one (li .u64 r1.1))] [] (.ret .fn)))


-- 117: vedette/num.Texts
def F117_e : (ByteArray × Int × Int) → PV × List Ob := fun r => (.tup [.one (ls r.1), .one (li .i64 r.2.1), .one (li .i64 r.2.2)], [])
def F117 (n : Nat) (a0 : ByteArray) (a1 : Int) : Option (ByteArray × Int × Int) :=
  (F73 n a0).bind fun (r1 : (Int × Int × Int)) =>
  if r1.2.2 != 0 then
    some (ByteArray.empty, 0, r1.2.2)
  else
    if decide (IntKind.wrap .u64 (imax a1 0) < r1.1) then
      some (ByteArray.empty, 0, 13)
    else
      if decide (IntKind.wrap .u64 (IntKind.wrap .i64 ((a0.size : Int) - r1.2.1)) < r1.1) then
        some (ByteArray.empty, 0, 10)
      else
        if 0 ≤ (r1.2.1 : Int) ∧ (r1.2.1 : Int) ≤ IntKind.wrap .i64 (r1.2.1 + IntKind.wrap .i64 r1.1) ∧ IntKind.wrap .i64 (r1.2.1 + IntKind.wrap .i64 r1.1) ≤ (a0.size : Int) then
          some (a0.extract r1.2.1.toNat (IntKind.wrap .i64 (r1.2.1 + IntKind.wrap .i64 r1.1)).toNat, IntKind.wrap .i64 (r1.2.1 + IntKind.wrap .i64 r1.1), 0)
        else none
theorem F117_ok (n : Nat) (a0 : ByteArray) (a1 : Int) : ∀ r, F117 n a0 a1 = some r → D 117 [.one (ls a0), .one (li .i64 a1)] [] = some (F117_e r) := by
  refine fn_to (D := D) (n := n + 8) (nt := 44) (rs := pc117_r) (c := pc117_c30) (L := [(0, qs a0), (1, qj a1)]) (M := []) (k := 0) rfl rfl rfl rfl rfl rfl rfl ?_
  unfold F117
  refine Sim.sr 3 [(6, qj 0), (5, qj 0), (4, qs be)] [] (.st 1 [(12, qs a0)] [] (.cl 13 true [[]] 73 [Operand.tmp 12] none (fun r1 => .tup [.one (li .u64 r1.1), qj r1.2.1, qj r1.2.2]) [qs a0] (F73_ok n a0) (fun r1 => ?_)))
  refine SimI.rd 7 [(9, qj r1.2.2), (8, qj r1.2.1), (7, .one (li .u64 r1.1)), (16, qj r1.2.2), (15, qj r1.2.1), (14, .one (li .u64 r1.1)), (11, .tup [.one (li .u64 r1.1), qj r1.2.1, qj r1.2.2])] [] (.thenN (.seq (.block (.sr 3 [(17, qb (r1.2.2 != 0)), (19, qb (r1.2.2 != 0)), (18, qj r1.2.2)] [] (.cond (r1.2.2 != 0) (by kernel_rfl) ?_ ?_)))))
  · exact Sim.sr 4 [(6, qj r1.2.2), (5, qj 0), (4, qs be), (20, qj r1.2.2)] [] (.ret (.blockR (.thenR .fn)))
  · refine Sim.sr 6 [(21, qb (decide (IntKind.wrap .u64 (imax a1 0) < r1.1))), (26, qb (decide (IntKind.wrap .u64 (imax a1 0) < r1.1))), (25, .one (li .u64 (IntKind.wrap .u64 (imax a1 0)))), (24, qj (imax a1 0)), (23, qj a1), (22, .one (li .u64 r1.1))] [] (.cond (decide (IntKind.wrap .u64 (imax a1 0) < r1.1)) (by kernel_rfl) ?_ ?_)
    · exact Sim.sr 3 [(6, qj 13), (5, qj 0), (4, qs be)] [] (.ret (.blockR (.thenR .fn)))
    · refine Sim.sr 8 [(27, qb (decide (IntKind.wrap .u64 (IntKind.wrap .i64 ((a0.size : Int) - r1.2.1)) < r1.1))), (34, qb (decide (IntKind.wrap .u64 (IntKind.wrap .i64 ((a0.size : Int) - r1.2.1)) < r1.1))), (33, .one (li .u64 (IntKind.wrap .u64 (IntKind.wrap .i64 ((a0.size : Int) - r1.2.1))))), (32, qj (IntKind.wrap .i64 ((a0.size : Int) - r1.2.1))), (31, qj r1.2.1), (30, qj (a0.size : Int)), (29, qs a0), (28, .one (li .u64 r1.1))] [] (.cond (decide (IntKind.wrap .u64 (IntKind.wrap .i64 ((a0.size : Int) - r1.2.1)) < r1.1)) (by kernel_rfl) ?_ ?_)
      · exact Sim.sr 3 [(6, qj 10), (5, qj 0), (4, qs be)] [] (.ret (.blockR (.thenR .fn)))
      · exact Sim.skip (.blockN (.thenN (.sr 5 [(10, qj (IntKind.wrap .i64 (r1.2.1 + IntKind.wrap .i64 r1.1))), (38, qj (IntKind.wrap .i64 (r1.2.1 + IntKind.wrap .i64 r1.1))), (37, qj (IntKind.wrap .i64 r1.1)), (36, .one (li .u64 r1.1)), (35, qj r1.2.1)] [] (.st 3 [(41, qj (IntKind.wrap .i64 (r1.2.1 + IntKind.wrap .i64 r1.1))), (40, qj r1.2.1), (39, qs a0)] [] (.guard (c := 0 ≤ (r1.2.1 : Int) ∧ (r1.2.1 : Int) ≤ IntKind.wrap .i64 (r1.2.1 + IntKind.wrap .i64 r1.1) ∧ IntKind.wrap .i64 (r1.2.1 + IntKind.wrap .i64 r1.1) ≤ (a0.size : Int)) ⟨some 42, POp.prim (Prim.slice 9 true true) [Operand.tmp 39, Operand.tmp 40, Operand.tmp 41], none, []⟩ [(42, qs (a0.extract r1.2.1.toNat (IntKind.wrap .i64 (r1.2.1 + IntKind.wrap .i64 r1.1)).toNat))] [] (by kernel_rfl) (fun hc => pOp_eff (by kernel_rfl) (by kernel_rfl) (eff_prim (by kernel_rfl) (pr_cutS (s := a0) (k := .i64) (l := .i64) (a := r1.2.1) (b := IntKind.wrap .i64 (r1.2.1 + IntKind.wrap .i64 r1.1)) Try.underlying9 hc))) (.rd 4 [(6, qj 0), (5, qj (IntKind.wrap .i64 (r1.2.1 + IntKind.wrap .i64 r1.1))), (4, qs (a0.extract r1.2.1.toNat (IntKind.wrap .i64 (r1.2.1 + IntKind.wrap .i64 r1.1)).toNat)), (43, qj (IntKind.wrap .i64 (r1.2.1 + IntKind.wrap .i64 r1.1)))] [] (.thenN (.ret .fn))))))))


-- 121: vedette/num.Zag
def F121_e : Int → PV × List Ob := fun r => (.one (li .i64 r), [])
def F121 (n : Nat) (a0 : Int) : Option Int :=
  some (bitsI .xor .i64 (IntKind.wrap .i64 (shrI .u64 a0 1)) (IntKind.wrap .i64 (0 - (IntKind.wrap .i64 (bitsI .and .u64 a0 1)))))
theorem F121_ok (n : Nat) (a0 : Int) : ∀ r, F121 n a0 = some r → D 121 [.one (li .u64 a0)] [] = some (F121_e r) := by
  refine fn_to (D := D) (n := n + 8) (nt := 11) (rs := pc121_r) (c := pc121_c5) (L := [(0, .one (li .u64 a0))]) (M := []) (k := 0) rfl rfl rfl rfl rfl rfl rfl ?_
  unfold F121
  exact Sim.sr 1 [(2, qj 0)] [] (.sr 9 [(2, qj (bitsI .xor .i64 (IntKind.wrap .i64 (shrI .u64 a0 1)) (IntKind.wrap .i64 (0 - (IntKind.wrap .i64 (bitsI .and .u64 a0 1)))))), (10, qj (bitsI .xor .i64 (IntKind.wrap .i64 (shrI .u64 a0 1)) (IntKind.wrap .i64 (0 - (IntKind.wrap .i64 (bitsI .and .u64 a0 1)))))), (9, qj (IntKind.wrap .i64 (0 - (IntKind.wrap .i64 (bitsI .and .u64 a0 1))))), (8, qj (IntKind.wrap .i64 (bitsI .and .u64 a0 1))), (7, .one (li .u64 (bitsI .and .u64 a0 1))), (6, .one (li .u64 a0)), (5, qj (IntKind.wrap .i64 (shrI .u64 a0 1))), (4, .one (li .u64 (shrI .u64 a0 1))), (3, .one (li .u64 a0))] [] (.ret .fn))


-- 118: vedette/num.Ints
def F118_e : (Int × Int × Int) → PV × List Ob := fun r => (.tup [.one (li .i64 r.1), .one (li .i64 r.2.1), .one (li .i64 r.2.2)], [])
def F118 (n : Nat) (a0 : ByteArray) : Option (Int × Int × Int) :=
  (F73 n a0).bind fun (r1 : (Int × Int × Int)) =>
  (F121 n r1.1).bind fun (r2 : Int) =>
  some (r2, r1.2.1, r1.2.2)
theorem F118_ok (n : Nat) (a0 : ByteArray) : ∀ r, F118 n a0 = some r → D 118 [.one (ls a0)] [] = some (F118_e r) := by
  refine fn_to (D := D) (n := n + 8) (nt := 18) (rs := pc118_r) (c := pc118_c7) (L := [(0, qs a0)]) (M := []) (k := 0) rfl rfl rfl rfl rfl rfl rfl ?_
  unfold F118
  refine Sim.sr 3 [(4, qj 0), (3, qj 0), (2, qj 0)] [] (.st 1 [(9, qs a0)] [] (.cl 10 true [[]] 73 [Operand.tmp 9] none (fun r1 => .tup [.one (li .u64 r1.1), qj r1.2.1, qj r1.2.2]) [qs a0] (F73_ok n a0) (fun r1 => ?_)))
  refine SimI.rd 7 [(7, qj r1.2.2), (6, qj r1.2.1), (5, .one (li .u64 r1.1)), (13, qj r1.2.2), (12, qj r1.2.1), (11, .one (li .u64 r1.1)), (8, .tup [.one (li .u64 r1.1), qj r1.2.1, qj r1.2.2])] [] (.thenN (.st 1 [(14, .one (li .u64 r1.1))] [] (.cl 15 true [[]] 121 [Operand.tmp 14] none (fun r2 => qj r2) [.one (li .u64 r1.1)] (F121_ok n r1.1) (fun r2 => ?_))))
  exact SimI.rd 5 [(4, qj r1.2.2), (3, qj r1.2.1), (2, qj r2), (17, qj r1.2.2), (16, qj r1.2.1)] [] (.thenN (.ret .fn))


-- 105: (*vedette/fields.reader).field
def F105_e : (Field × Reader) → PV × List Ob := fun r => (.agg [li .i64 r.1.N, ls r.1.Text], [.cells (Reader.cells r.2)])
def F105 (n : Nat) (a0 : Reader) : Option (Field × Reader) :=
  if a0.e != 0 then
    some ((Field.mk 0 ByteArray.empty), a0)
  else
    if 0 ≤ (a0.at_ : Int) ∧ (a0.at_ : Int) ≤ (a0.s.size : Int) then
      (F117 n (a0.s.extract a0.at_.toNat a0.s.size) 12).bind fun (r1 : (ByteArray × Int × Int)) =>
      (F116 n a0 r1.2.1 r1.2.2).bind fun (r2 : Reader) =>
      if r1.1.toList == ByteArray.empty.toList then
        if r1.2.2 == 0 then
          if 0 ≤ (r2.at_ : Int) ∧ (r2.at_ : Int) ≤ (r2.s.size : Int) then
            (F118 n (r2.s.extract r2.at_.toNat r2.s.size)).bind fun (r3 : (Int × Int × Int)) =>
            (F116 n r2 r3.2.1 r3.2.2).bind fun (r4 : Reader) =>
            some ((Field.mk r3.1 r1.1), r4)
          else none
        else
          some ((Field.mk 0 r1.1), r2)
      else
        some ((Field.mk 0 r1.1), r2)
    else none
theorem F105_ok (n : Nat) (a0 : Reader) : ∀ r, F105 n a0 = some r → D 105 [.one (.ptr 1000000 0)] [.cells (Reader.cells a0)] = some (F105_e r) := by
  refine fn_to (D := D) (n := n + 8) (nt := 63) (rs := pc105_r) (c := pc105_c31) (L := [(0, qp 1000000 0)]) (M := [(1000000, some (.cells (Reader.cells a0)))]) (k := 1) rfl rfl rfl rfl rfl rfl rfl ?_
  unfold F105
  refine Sim.sr 1 [(2, qp 2 0)] [(2, some (.cells [lj 0, ls be]))] (.sr 1 [(3, qp 3 0)] [(3, some (.cells [lj 0, ls be]))] (.seq (.sr 5 [(14, qb (a0.e != 0)), (13, qj a0.e), (12, qp 1000000 2), (11, qp 1000000 0), (10, qp 1000000 0)] [] (.cond (a0.e != 0) (by kernel_rfl) ?_ ?_))))
  · exact Sim.sr 2 [(15, .agg [lj 0, ls be])] [(2, some (.cells [lj 0, ls be]))] (.ret (.thenR .fn))
  · refine Sim.skip (.thenN (.st 8 [(24, qj a0.at_), (23, qp 1000000 1), (22, qp 1000000 0), (21, qp 1000000 0), (20, qs a0.s), (19, qp 1000000 0), (18, qp 1000000 0), (17, qp 1000000 0)] [] (.guard (c := 0 ≤ (a0.at_ : Int) ∧ (a0.at_ : Int) ≤ (a0.s.size : Int)) ⟨some 25, POp.prim (Prim.slice 9 true false) [Operand.tmp 20, Operand.tmp 24], none, [(20, Hint.imm), (24, Hint.imm)]⟩ [(25, qs (a0.s.extract a0.at_.toNat a0.s.size))] [] (by kernel_rfl) (fun hc => pOp_eff (by kernel_rfl) (by kernel_rfl) (eff_prim (by kernel_rfl) (pr_cutL (s := a0.s) (k := .i64) (a := a0.at_) Try.underlying9 hc))) (.bind (og := F117 n (a0.s.extract a0.at_.toNat a0.s.size) 12) ⟨some 26, POp.call false [[], []] 117 [Operand.tmp 25, Operand.const (Value.int IntKind.i64 12)], none, [(25, Hint.imm)]⟩ (fun r1 => [(26, .tup [qs r1.1, qj r1.2.1, qj r1.2.2])]) (fun r1 => []) (by kernel_rfl) (fun r1 hr => pOp_eff (by kernel_rfl) (by kernel_rfl) (eff_call (ARGS := [qs (a0.s.extract a0.at_.toNat a0.s.size), qj 12]) (by kernel_rfl) (args_clean (by kernel_rfl) (args_clean (by kernel_rfl) args_nil)) (F117_ok n (a0.s.extract a0.at_.toNat a0.s.size) 12 r1 hr) (by kernel_rfl))) (fun r1 => ?_)))))
    refine SimI.rd 7 [(6, qj r1.2.2), (5, qj r1.2.1), (4, qs r1.1), (29, qj r1.2.2), (28, qj r1.2.1), (27, qs r1.1), (16, .tup [qs r1.1, qj r1.2.1, qj r1.2.2])] [] (.thenN (.st 3 [(32, qj r1.2.2), (31, qj r1.2.1), (30, qp 1000000 0)] [] (.bind (og := F116 n a0 r1.2.1 r1.2.2) ⟨some 33, POp.call true [[], [], []] 116 [Operand.tmp 30, Operand.tmp 31, Operand.tmp 32], none, []⟩ (fun r2 => [(33, .tup [])]) (fun r2 => [(1000000, some (.cells (Reader.cells r2)))]) (by kernel_rfl) (fun r2 hr => pOp_eff (by kernel_rfl) (by kernel_rfl) (eff_callp (ARGS := [qp 1000000 0, qj r1.2.1, qj r1.2.2]) (ARGS' := [qp 1000000 0, qj r1.2.1, qj r1.2.2]) (ks := [1000000]) (os := [(Reader.cells a0)]) (os' := [(Reader.cells r2)]) (by kernel_rfl) (args_ptr (by kernel_rfl) (args_clean (by kernel_rfl) (args_clean (by kernel_rfl) args_nil))) rfl (by kernel_rfl) (F116_ok n a0 r1.2.1 r1.2.2 r2 hr) (by kernel_rfl) (by kernel_rfl))) (fun r2 => ?_))))
    refine SimI.dn (.thenN (.seq (.sr 3 [(35, qp 3 1), (34, qs r1.1)] [(3, some (.cells [lj 0, ls r1.1]))] (.st 3 [(38, qb (r1.1.toList == be.toList)), (37, qb (r1.1.toList == be.toList)), (36, qs r1.1)] [] (.split 38 (r1.1.toList == be.toList) (by kernel_rfl) ?_ ?_)))))
    · refine SimI.rd 3 [(41, qb (r1.2.2 == 0)), (40, qb (r1.2.2 == 0)), (39, qj r1.2.2)] [] (.thenN (.cond (r1.2.2 == 0) (by kernel_rfl) ?_ ?_))
      · refine Sim.st 8 [(50, qj r2.at_), (49, qp 1000000 1), (48, qp 1000000 0), (47, qp 1000000 0), (46, qs r2.s), (45, qp 1000000 0), (44, qp 1000000 0), (43, qp 1000000 0)] [] (.guard (c := 0 ≤ (r2.at_ : Int) ∧ (r2.at_ : Int) ≤ (r2.s.size : Int)) ⟨some 51, POp.prim (Prim.slice 9 true false) [Operand.tmp 46, Operand.tmp 50], none, [(46, Hint.imm), (50, Hint.imm)]⟩ [(51, qs (r2.s.extract r2.at_.toNat r2.s.size))] [] (by kernel_rfl) (fun hc => pOp_eff (by kernel_rfl) (by kernel_rfl) (eff_prim (by kernel_rfl) (pr_cutL (s := r2.s) (k := .i64) (a := r2.at_) Try.underlying9 hc))) (.bind (og := F118 n (r2.s.extract r2.at_.toNat r2.s.size)) ⟨some 52, POp.call false [[]] 118 [Operand.tmp 51], none, [(51, Hint.imm)]⟩ (fun r3 => [(52, .tup [qj r3.1, qj r3.2.1, qj r3.2.2])]) (fun r3 => []) (by kernel_rfl) (fun r3 hr => pOp_eff (by kernel_rfl) (by kernel_rfl) (eff_call (ARGS := [qs (r2.s.extract r2.at_.toNat r2.s.size)]) (by kernel_rfl) (args_clean (by kernel_rfl) args_nil) (F118_ok n (r2.s.extract r2.at_.toNat r2.s.size) r3 hr) (by kernel_rfl))) (fun r3 => ?_)))
        refine SimI.rd 7 [(9, qj r3.2.2), (8, qj r3.2.1), (7, qj r3.1), (55, qj r3.2.2), (54, qj r3.2.1), (53, qj r3.1), (42, .tup [qj r3.1, qj r3.2.1, qj r3.2.2])] [] (.thenN (.st 3 [(58, qj r3.2.2), (57, qj r3.2.1), (56, qp 1000000 0)] [] (.bind (og := F116 n r2 r3.2.1 r3.2.2) ⟨some 59, POp.call true [[], [], []] 116 [Operand.tmp 56, Operand.tmp 57, Operand.tmp 58], none, []⟩ (fun r4 => [(59, .tup [])]) (fun r4 => [(1000000, some (.cells (Reader.cells r4)))]) (by kernel_rfl) (fun r4 hr => pOp_eff (by kernel_rfl) (by kernel_rfl) (eff_callp (ARGS := [qp 1000000 0, qj r3.2.1, qj r3.2.2]) (ARGS' := [qp 1000000 0, qj r3.2.1, qj r3.2.2]) (ks := [1000000]) (os := [(Reader.cells r2)]) (os' := [(Reader.cells r4)]) (by kernel_rfl) (args_ptr (by kernel_rfl) (args_clean (by kernel_rfl) (args_clean (by kernel_rfl) args_nil))) rfl (by kernel_rfl) (F116_ok n r2 r3.2.1 r3.2.2 r4 hr) (by kernel_rfl) (by kernel_rfl))) (fun r4 => ?_))))
        exact SimI.dn (.thenN (.region0 (.rd 3 [(61, qp 3 0), (60, qj r3.1)] [(3, some (.cells [lj r3.1, ls r1.1]))] (.thenN (.sr 2 [(62, .agg [lj r3.1, ls r1.1])] [(2, some (.cells [lj r3.1, ls r1.1]))] (.ret .fn))))))
      · exact Sim.skip (.thenN (.sr 2 [(62, .agg [lj 0, ls r1.1])] [(2, some (.cells [lj 0, ls r1.1]))] (.ret .fn)))
    · exact SimI.rd 3 [(41, qb false), (40, .tup []), (39, .tup [])] [] (.thenN (.condF (by kernel_rfl) (.skip (.thenN (.sr 2 [(62, .agg [lj 0, ls r1.1])] [(2, some (.cells [lj 0, ls r1.1]))] (.ret .fn))))))


-- 71: vedette/fields.Read
def F71_e : (Delta × Int × Int) → PV × List Ob := fun r => (.tup [.agg (Delta.cells r.1), .one (li .i64 r.2.1), .one (li .i64 r.2.2)], [])
def F71_j39 (n : Nat) (r1 : (Int × Reader)) (r2 : (Int × Reader)) (r4 : (Int × Reader)) (r5 : (Int × Reader)) (g30 : Reader) (i31 : Int) (s32 : ByteArray) (i33 : Int) (s34 : ByteArray) (i35 : Int) (s36 : ByteArray) (i37 : Int) (s38 : ByteArray) : Option (Delta × Int × Int) :=
    if g30.e != 0 then
      some ((Delta.mk 0 0 (Point.mk 0 0) (A4.mk (Field.mk 0 ByteArray.empty) (Field.mk 0 ByteArray.empty) (Field.mk 0 ByteArray.empty) (Field.mk 0 ByteArray.empty))), 0, g30.e)
    else
      (F77 n (Delta.mk r1.1 (IntKind.wrap .u8 r2.1) (Point.mk r4.1 r5.1) (A4.mk (Field.mk i31 s32) (Field.mk i33 s34) (Field.mk i35 s36) (Field.mk i37 s38)))).bind fun (r40 : Bool) =>
      if !(r40) then
        some ((Delta.mk 0 0 (Point.mk 0 0) (A4.mk (Field.mk 0 ByteArray.empty) (Field.mk 0 ByteArray.empty) (Field.mk 0 ByteArray.empty) (Field.mk 0 ByteArray.empty))), 0, 11)
      else
        some ((Delta.mk r1.1 (IntKind.wrap .u8 r2.1) (Point.mk r4.1 r5.1) (A4.mk (Field.mk i31 s32) (Field.mk i33 s34) (Field.mk i35 s36) (Field.mk i37 s38))), g30.at_, 0)
theorem F71_j39_ok (n : Nat) (r1 : (Int × Reader)) (r2 : (Int × Reader)) (r4 : (Int × Reader)) (r5 : (Int × Reader)) (g30 : Reader) (i31 : Int) (s32 : ByteArray) (i33 : Int) (s34 : ByteArray) (i35 : Int) (s36 : ByteArray) (i37 : Int) (s38 : ByteArray) : Sim Try.prog D (n + 8) pc71_c65 [(2, qp 2 0), (5, qp 11 0), (6, qp 6 0)] [(2, some (.cells [lj 0, li .u8 0, lj 0, lj 0, lj 0, ls be, lj 0, ls be, lj 0, ls be, lj 0, ls be])), (6, some (.cells [lj r1.1, li .u8 (IntKind.wrap .u8 r2.1), lj r4.1, lj r5.1, lj i31, ls s32, lj i33, ls s34, lj i35, ls s36, lj i37, ls s38])), (11, some (.cells (Reader.cells g30)))] (F71_j39 n r1 r2 r4 r5 g30 i31 s32 i33 s34 i35 s36 i37 s38) (QF false pc71_r 0 F71_e) := by
    unfold F71_j39
    refine Sim.seq (.seq (.rg [(2, qp 2 0), (5, qp 11 0), (6, qp 6 0)] [(2, some (.cells [lj 0, li .u8 0, lj 0, lj 0, lj 0, ls be, lj 0, ls be, lj 0, ls be, lj 0, ls be])), (6, some (.cells [lj r1.1, li .u8 (IntKind.wrap .u8 r2.1), lj r4.1, lj r5.1, lj i31, ls s32, lj i33, ls s34, lj i35, ls s36, lj i37, ls s38])), (11, some (.cells (Reader.cells g30)))] (.rd 5 [(75, qb (g30.e != 0)), (74, qj g30.e), (73, qp 11 2), (72, qp 11 0), (71, qp 11 0)] [] (.thenN (.cond (g30.e != 0) (by kernel_rfl) ?_ ?_)))))
    · exact Sim.sr 8 [(4, qj g30.e), (3, qj 0), (80, qj g30.e), (79, qp 11 2), (78, qp 11 0), (77, qp 11 0), (76, .agg [lj 0, li .u8 0, lj 0, lj 0, lj 0, ls be, lj 0, ls be, lj 0, ls be, lj 0, ls be])] [(2, some (.cells [lj 0, li .u8 0, lj 0, lj 0, lj 0, ls be, lj 0, ls be, lj 0, ls be, lj 0, ls be]))] (.ret (.thenR .fn))
    · refine Sim.skip (.thenN (.seq (.st 1 [(81, .agg [lj r1.1, li .u8 (IntKind.wrap .u8 r2.1), lj r4.1, lj r5.1, lj i31, ls s32, lj i33, ls s34, lj i35, ls s36, lj i37, ls s38])] [] (.cl 82 true [[]] 77 [Operand.tmp 81] none (fun r40 => qb r40) [.agg [lj r1.1, li .u8 (IntKind.wrap .u8 r2.1), lj r4.1, lj r5.1, lj i31, ls s32, lj i33, ls s34, lj i35, ls s36, lj i37, ls s38]] (F77_ok n (Delta.mk r1.1 (IntKind.wrap .u8 r2.1) (Point.mk r4.1 r5.1) (A4.mk (Field.mk i31 s32) (Field.mk i33 s34) (Field.mk i35 s36) (Field.mk i37 s38)))) (fun r40 => ?_)))))
      refine SimI.rd 1 [(83, qb (!(r40)))] [] (.thenN (.cond (!(r40)) (by kernel_rfl) ?_ ?_))
      · exact Sim.sr 4 [(4, qj 11), (3, qj 0), (84, .agg [lj 0, li .u8 0, lj 0, lj 0, lj 0, ls be, lj 0, ls be, lj 0, ls be, lj 0, ls be])] [(2, some (.cells [lj 0, li .u8 0, lj 0, lj 0, lj 0, ls be, lj 0, ls be, lj 0, ls be, lj 0, ls be]))] (.ret (.thenR .fn))
      · exact Sim.skip (.thenN (.sr 8 [(4, qj 0), (3, qj g30.at_), (89, qj g30.at_), (88, qp 11 1), (87, qp 11 0), (86, qp 11 0), (85, .agg [lj r1.1, li .u8 (IntKind.wrap .u8 r2.1), lj r4.1, lj r5.1, lj i31, ls s32, lj i33, ls s34, lj i35, ls s36, lj i37, ls s38])] [(2, some (.cells [lj r1.1, li .u8 (IntKind.wrap .u8 r2.1), lj r4.1, lj r5.1, lj i31, ls s32, lj i33, ls s34, lj i35, ls s36, lj i37, ls s38]))] (.ret .fn)))

def F71_u29 (n : Nat) (r1 : (Int × Reader)) (r2 : (Int × Reader)) (r4 : (Int × Reader)) (r5 : (Int × Reader)) (i9 : Int) (s10 : ByteArray) (i15 : Int) (s16 : ByteArray) (i21 : Int) (s22 : ByteArray) (g26 : Reader) (i27 : Int) (s28 : ByteArray) : Option (Delta × Int × Int) :=
    F71_j39 n r1 r2 r4 r5 g26 i9 s10 i15 s16 i21 s22 i27 s28
theorem F71_u29_ok (n : Nat) (r1 : (Int × Reader)) (r2 : (Int × Reader)) (r4 : (Int × Reader)) (r5 : (Int × Reader)) (i9 : Int) (s10 : ByteArray) (i15 : Int) (s16 : ByteArray) (i21 : Int) (s22 : ByteArray) (g26 : Reader) (i27 : Int) (s28 : ByteArray) : SimL Try.prog D (n + 8) (n + 4) pc71_c43 [(2, qp 2 0), (5, qp 11 0), (6, qp 6 0), (51, qj 4)] [(2, some (.cells [lj 0, li .u8 0, lj 0, lj 0, lj 0, ls be, lj 0, ls be, lj 0, ls be, lj 0, ls be])), (6, some (.cells [lj r1.1, li .u8 (IntKind.wrap .u8 r2.1), lj r4.1, lj r5.1, lj i9, ls s10, lj i15, ls s16, lj i21, ls s22, lj i27, ls s28])), (11, some (.cells (Reader.cells g26)))] (F71_u29 n r1 r2 r4 r5 i9 s10 i15 s16 i21 s22 g26 i27 s28) (QB 0 (QT Try.prog D (n + 8) pc71_c65 (QF false pc71_r 0 F71_e))) := by
    unfold F71_u29
    refine SimL.succ (.seq (.rg [(2, qp 2 0), (5, qp 11 0), (6, qp 6 0), (51, qj 4)] [(2, some (.cells [lj 0, li .u8 0, lj 0, lj 0, lj 0, ls be, lj 0, ls be, lj 0, ls be, lj 0, ls be])), (6, some (.cells [lj r1.1, li .u8 (IntKind.wrap .u8 r2.1), lj r4.1, lj r5.1, lj i9, ls s10, lj i15, ls s16, lj i21, ls s22, lj i27, ls s28])), (11, some (.cells (Reader.cells g26)))] (.rd 1 [(52, qb false)] [] (.thenN (.seq (.condF (by kernel_rfl) (.exit (.thenX (.loopX (.blockX (.thenN (.pr [2, 5, 6] [2, 6, 11] [] [(2, qp 2 0), (5, qp 11 0), (6, qp 6 0)] [(2, some (.cells [lj 0, li .u8 0, lj 0, lj 0, lj 0, ls be, lj 0, ls be, lj 0, ls be, lj 0, ls be])), (6, some (.cells [lj r1.1, li .u8 (IntKind.wrap .u8 r2.1), lj r4.1, lj r5.1, lj i9, ls s10, lj i15, ls s16, lj i21, ls s22, lj i27, ls s28])), (11, some (.cells (Reader.cells g26)))] ?_))))))))))))
    exact F71_j39_ok n r1 r2 r4 r5 g26 i9 s10 i15 s16 i21 s22 i27 s28

def F71_u23 (n : Nat) (r1 : (Int × Reader)) (r2 : (Int × Reader)) (r4 : (Int × Reader)) (r5 : (Int × Reader)) (i9 : Int) (s10 : ByteArray) (i15 : Int) (s16 : ByteArray) (g20 : Reader) (i21 : Int) (s22 : ByteArray) : Option (Delta × Int × Int) :=
    if g20.e != 0 then
      F71_j39 n r1 r2 r4 r5 g20 i9 s10 i15 s16 i21 s22 0 ByteArray.empty
    else
      (F99 n (IntKind.wrap .u8 r2.1) 3).bind fun (r24 : Bool) =>
      if r24 then
        (F105 n g20).bind fun (r25 : (Field × Reader)) =>
        F71_u29 n r1 r2 r4 r5 i9 s10 i15 s16 i21 s22 r25.2 r25.1.N r25.1.Text
      else
        F71_u29 n r1 r2 r4 r5 i9 s10 i15 s16 i21 s22 g20 0 ByteArray.empty
theorem F71_u23_ok (n : Nat) (r1 : (Int × Reader)) (r2 : (Int × Reader)) (r4 : (Int × Reader)) (r5 : (Int × Reader)) (i9 : Int) (s10 : ByteArray) (i15 : Int) (s16 : ByteArray) (g20 : Reader) (i21 : Int) (s22 : ByteArray) : SimL Try.prog D (n + 8) (n + 5) pc71_c43 [(2, qp 2 0), (5, qp 11 0), (6, qp 6 0), (51, qj 3)] [(2, some (.cells [lj 0, li .u8 0, lj 0, lj 0, lj 0, ls be, lj 0, ls be, lj 0, ls be, lj 0, ls be])), (6, some (.cells [lj r1.1, li .u8 (IntKind.wrap .u8 r2.1), lj r4.1, lj r5.1, lj i9, ls s10, lj i15, ls s16, lj i21, ls s22, lj 0, ls be])), (11, some (.cells (Reader.cells g20)))] (F71_u23 n r1 r2 r4 r5 i9 s10 i15 s16 g20 i21 s22) (QB 0 (QT Try.prog D (n + 8) pc71_c65 (QF false pc71_r 0 F71_e))) := by
    unfold F71_u23
    refine SimL.succ (.seq (.rg [(2, qp 2 0), (5, qp 11 0), (6, qp 6 0), (51, qj 3)] [(2, some (.cells [lj 0, li .u8 0, lj 0, lj 0, lj 0, ls be, lj 0, ls be, lj 0, ls be, lj 0, ls be])), (6, some (.cells [lj r1.1, li .u8 (IntKind.wrap .u8 r2.1), lj r4.1, lj r5.1, lj i9, ls s10, lj i15, ls s16, lj i21, ls s22, lj 0, ls be])), (11, some (.cells (Reader.cells g20)))] (.rd 1 [(52, qb true)] [] (.thenN (.seq (.condT (by kernel_rfl) (.skip (.thenN (.seq (.block (.sr 2 [(8, qj 3), (53, qj 3)] [] (.block (.sr 6 [(54, qb (g20.e != 0)), (59, qb (g20.e != 0)), (58, qj g20.e), (57, qp 11 2), (56, qp 11 0), (55, qp 11 0)] [] (.cond (g20.e != 0) (by kernel_rfl) ?_ ?_))))))))))))))
    · refine Sim.exit (.blockY rfl (.blockY rfl (.thenX (.loopX (.blockX (.thenN (.pr [2, 5, 6] [2, 6, 11] [] [(2, qp 2 0), (5, qp 11 0), (6, qp 6 0)] [(2, some (.cells [lj 0, li .u8 0, lj 0, lj 0, lj 0, ls be, lj 0, ls be, lj 0, ls be, lj 0, ls be])), (6, some (.cells [lj r1.1, li .u8 (IntKind.wrap .u8 r2.1), lj r4.1, lj r5.1, lj i9, ls s10, lj i15, ls s16, lj i21, ls s22, lj 0, ls be])), (11, some (.cells (Reader.cells g20)))] ?_)))))))
      exact F71_j39_ok n r1 r2 r4 r5 g20 i9 s10 i15 s16 i21 s22 0 be
    · refine Sim.st 3 [(63, qj 3), (62, .one (li .u8 (IntKind.wrap .u8 r2.1))), (61, qp 6 1)] [] (.cl 64 true [[], []] 99 [Operand.tmp 62, Operand.tmp 63] none (fun r24 => qb r24) [.one (li .u8 (IntKind.wrap .u8 r2.1)), qj 3] (F99_ok n (IntKind.wrap .u8 r2.1) 3) (fun r24 => ?_))
      refine SimI.rd 1 [(60, qb r24)] [] (.thenN (.cond r24 (by kernel_rfl) ?_ ?_))
      · refine Sim.region0 (.rn 2 [(66, qp 11 0), (65, qj 3)] [] (.bind (og := F105 n g20) ⟨some 67, POp.call true [[]] 105 [Operand.tmp 66], none, []⟩ (fun r25 => [(67, .agg [lj r25.1.N, ls r25.1.Text])]) (fun r25 => [(11, some (.cells (Reader.cells r25.2)))]) (by kernel_rfl) (fun r25 hr => pOp_eff (by kernel_rfl) (by kernel_rfl) (eff_callp (ARGS := [qp 11 0]) (ARGS' := [qp 1000000 0]) (ks := [11]) (os := [(Reader.cells g20)]) (os' := [(Reader.cells r25.2)]) (by kernel_rfl) (args_ptr (by kernel_rfl) args_nil) rfl (by kernel_rfl) (F105_ok n g20 r25 hr) (by kernel_rfl) (by kernel_rfl))) (fun r25 => ?_)))
        refine SimI.rd 3 [(69, qp 6 10), (68, qp 6 4)] [(6, some (.cells [lj r1.1, li .u8 (IntKind.wrap .u8 r2.1), lj r4.1, lj r5.1, lj i9, ls s10, lj i15, ls s16, lj i21, ls s22, lj r25.1.N, ls r25.1.Text]))] (.blockN (.blockN (.thenN (.region0 (.rd 2 [(51, qj 4), (70, qj 4)] [] (.loopN (.pr [2, 5, 6, 51] [2, 6, 11] [] [(2, qp 2 0), (5, qp 11 0), (6, qp 6 0), (51, qj 4)] [(2, some (.cells [lj 0, li .u8 0, lj 0, lj 0, lj 0, ls be, lj 0, ls be, lj 0, ls be, lj 0, ls be])), (6, some (.cells [lj r1.1, li .u8 (IntKind.wrap .u8 r2.1), lj r4.1, lj r5.1, lj i9, ls s10, lj i15, ls s16, lj i21, ls s22, lj r25.1.N, ls r25.1.Text])), (11, some (.cells (Reader.cells r25.2)))] ?_)))))))
        exact F71_u29_ok n r1 r2 r4 r5 i9 s10 i15 s16 i21 s22 r25.2 r25.1.N r25.1.Text
      · refine Sim.skip (.blockN (.blockN (.thenN (.region0 (.rd 2 [(51, qj 4), (70, qj 4)] [] (.loopN (.pr [2, 5, 6, 51] [2, 6, 11] [] [(2, qp 2 0), (5, qp 11 0), (6, qp 6 0), (51, qj 4)] [(2, some (.cells [lj 0, li .u8 0, lj 0, lj 0, lj 0, ls be, lj 0, ls be, lj 0, ls be, lj 0, ls be])), (6, some (.cells [lj r1.1, li .u8 (IntKind.wrap .u8 r2.1), lj r4.1, lj r5.1, lj i9, ls s10, lj i15, ls s16, lj i21, ls s22, lj 0, ls be])), (11, some (.cells (Reader.cells g20)))] ?_)))))))
        exact F71_u29_ok n r1 r2 r4 r5 i9 s10 i15 s16 i21 s22 g20 0 be

def F71_u17 (n : Nat) (r1 : (Int × Reader)) (r2 : (Int × Reader)) (r4 : (Int × Reader)) (r5 : (Int × Reader)) (i9 : Int) (s10 : ByteArray) (g14 : Reader) (i15 : Int) (s16 : ByteArray) : Option (Delta × Int × Int) :=
    if g14.e != 0 then
      F71_j39 n r1 r2 r4 r5 g14 i9 s10 i15 s16 0 ByteArray.empty 0 ByteArray.empty
    else
      (F99 n (IntKind.wrap .u8 r2.1) 2).bind fun (r18 : Bool) =>
      if r18 then
        (F105 n g14).bind fun (r19 : (Field × Reader)) =>
        F71_u23 n r1 r2 r4 r5 i9 s10 i15 s16 r19.2 r19.1.N r19.1.Text
      else
        F71_u23 n r1 r2 r4 r5 i9 s10 i15 s16 g14 0 ByteArray.empty
theorem F71_u17_ok (n : Nat) (r1 : (Int × Reader)) (r2 : (Int × Reader)) (r4 : (Int × Reader)) (r5 : (Int × Reader)) (i9 : Int) (s10 : ByteArray) (g14 : Reader) (i15 : Int) (s16 : ByteArray) : SimL Try.prog D (n + 8) (n + 6) pc71_c43 [(2, qp 2 0), (5, qp 11 0), (6, qp 6 0), (51, qj 2)] [(2, some (.cells [lj 0, li .u8 0, lj 0, lj 0, lj 0, ls be, lj 0, ls be, lj 0, ls be, lj 0, ls be])), (6, some (.cells [lj r1.1, li .u8 (IntKind.wrap .u8 r2.1), lj r4.1, lj r5.1, lj i9, ls s10, lj i15, ls s16, lj 0, ls be, lj 0, ls be])), (11, some (.cells (Reader.cells g14)))] (F71_u17 n r1 r2 r4 r5 i9 s10 g14 i15 s16) (QB 0 (QT Try.prog D (n + 8) pc71_c65 (QF false pc71_r 0 F71_e))) := by
    unfold F71_u17
    refine SimL.succ (.seq (.rg [(2, qp 2 0), (5, qp 11 0), (6, qp 6 0), (51, qj 2)] [(2, some (.cells [lj 0, li .u8 0, lj 0, lj 0, lj 0, ls be, lj 0, ls be, lj 0, ls be, lj 0, ls be])), (6, some (.cells [lj r1.1, li .u8 (IntKind.wrap .u8 r2.1), lj r4.1, lj r5.1, lj i9, ls s10, lj i15, ls s16, lj 0, ls be, lj 0, ls be])), (11, some (.cells (Reader.cells g14)))] (.rd 1 [(52, qb true)] [] (.thenN (.seq (.condT (by kernel_rfl) (.skip (.thenN (.seq (.block (.sr 2 [(8, qj 2), (53, qj 2)] [] (.block (.sr 6 [(54, qb (g14.e != 0)), (59, qb (g14.e != 0)), (58, qj g14.e), (57, qp 11 2), (56, qp 11 0), (55, qp 11 0)] [] (.cond (g14.e != 0) (by kernel_rfl) ?_ ?_))))))))))))))
    · refine Sim.exit (.blockY rfl (.blockY rfl (.thenX (.loopX (.blockX (.thenN (.pr [2, 5, 6] [2, 6, 11] [] [(2, qp 2 0), (5, qp 11 0), (6, qp 6 0)] [(2, some (.cells [lj 0, li .u8 0, lj 0, lj 0, lj 0, ls be, lj 0, ls be, lj 0, ls be, lj 0, ls be])), (6, some (.cells [lj r1.1, li .u8 (IntKind.wrap .u8 r2.1), lj r4.1, lj r5.1, lj i9, ls s10, lj i15, ls s16, lj 0, ls be, lj 0, ls be])), (11, some (.cells (Reader.cells g14)))] ?_)))))))
      exact F71_j39_ok n r1 r2 r4 r5 g14 i9 s10 i15 s16 0 be 0 be
    · refine Sim.st 3 [(63, qj 2), (62, .one (li .u8 (IntKind.wrap .u8 r2.1))), (61, qp 6 1)] [] (.cl 64 true [[], []] 99 [Operand.tmp 62, Operand.tmp 63] none (fun r18 => qb r18) [.one (li .u8 (IntKind.wrap .u8 r2.1)), qj 2] (F99_ok n (IntKind.wrap .u8 r2.1) 2) (fun r18 => ?_))
      refine SimI.rd 1 [(60, qb r18)] [] (.thenN (.cond r18 (by kernel_rfl) ?_ ?_))
      · refine Sim.region0 (.rn 2 [(66, qp 11 0), (65, qj 2)] [] (.bind (og := F105 n g14) ⟨some 67, POp.call true [[]] 105 [Operand.tmp 66], none, []⟩ (fun r19 => [(67, .agg [lj r19.1.N, ls r19.1.Text])]) (fun r19 => [(11, some (.cells (Reader.cells r19.2)))]) (by kernel_rfl) (fun r19 hr => pOp_eff (by kernel_rfl) (by kernel_rfl) (eff_callp (ARGS := [qp 11 0]) (ARGS' := [qp 1000000 0]) (ks := [11]) (os := [(Reader.cells g14)]) (os' := [(Reader.cells r19.2)]) (by kernel_rfl) (args_ptr (by kernel_rfl) args_nil) rfl (by kernel_rfl) (F105_ok n g14 r19 hr) (by kernel_rfl) (by kernel_rfl))) (fun r19 => ?_)))
        refine SimI.rd 3 [(69, qp 6 8), (68, qp 6 4)] [(6, some (.cells [lj r1.1, li .u8 (IntKind.wrap .u8 r2.1), lj r4.1, lj r5.1, lj i9, ls s10, lj i15, ls s16, lj r19.1.N, ls r19.1.Text, lj 0, ls be]))] (.blockN (.blockN (.thenN (.region0 (.rd 2 [(51, qj 3), (70, qj 3)] [] (.loopN (.pr [2, 5, 6, 51] [2, 6, 11] [] [(2, qp 2 0), (5, qp 11 0), (6, qp 6 0), (51, qj 3)] [(2, some (.cells [lj 0, li .u8 0, lj 0, lj 0, lj 0, ls be, lj 0, ls be, lj 0, ls be, lj 0, ls be])), (6, some (.cells [lj r1.1, li .u8 (IntKind.wrap .u8 r2.1), lj r4.1, lj r5.1, lj i9, ls s10, lj i15, ls s16, lj r19.1.N, ls r19.1.Text, lj 0, ls be])), (11, some (.cells (Reader.cells r19.2)))] ?_)))))))
        exact F71_u23_ok n r1 r2 r4 r5 i9 s10 i15 s16 r19.2 r19.1.N r19.1.Text
      · refine Sim.skip (.blockN (.blockN (.thenN (.region0 (.rd 2 [(51, qj 3), (70, qj 3)] [] (.loopN (.pr [2, 5, 6, 51] [2, 6, 11] [] [(2, qp 2 0), (5, qp 11 0), (6, qp 6 0), (51, qj 3)] [(2, some (.cells [lj 0, li .u8 0, lj 0, lj 0, lj 0, ls be, lj 0, ls be, lj 0, ls be, lj 0, ls be])), (6, some (.cells [lj r1.1, li .u8 (IntKind.wrap .u8 r2.1), lj r4.1, lj r5.1, lj i9, ls s10, lj i15, ls s16, lj 0, ls be, lj 0, ls be])), (11, some (.cells (Reader.cells g14)))] ?_)))))))
        exact F71_u23_ok n r1 r2 r4 r5 i9 s10 i15 s16 g14 0 be

def F71_u11 (n : Nat) (r1 : (Int × Reader)) (r2 : (Int × Reader)) (r4 : (Int × Reader)) (r5 : (Int × Reader)) (g8 : Reader) (i9 : Int) (s10 : ByteArray) : Option (Delta × Int × Int) :=
    if g8.e != 0 then
      F71_j39 n r1 r2 r4 r5 g8 i9 s10 0 ByteArray.empty 0 ByteArray.empty 0 ByteArray.empty
    else
      (F99 n (IntKind.wrap .u8 r2.1) 1).bind fun (r12 : Bool) =>
      if r12 then
        (F105 n g8).bind fun (r13 : (Field × Reader)) =>
        F71_u17 n r1 r2 r4 r5 i9 s10 r13.2 r13.1.N r13.1.Text
      else
        F71_u17 n r1 r2 r4 r5 i9 s10 g8 0 ByteArray.empty
theorem F71_u11_ok (n : Nat) (r1 : (Int × Reader)) (r2 : (Int × Reader)) (r4 : (Int × Reader)) (r5 : (Int × Reader)) (g8 : Reader) (i9 : Int) (s10 : ByteArray) : SimL Try.prog D (n + 8) (n + 7) pc71_c43 [(2, qp 2 0), (5, qp 11 0), (6, qp 6 0), (51, qj 1)] [(2, some (.cells [lj 0, li .u8 0, lj 0, lj 0, lj 0, ls be, lj 0, ls be, lj 0, ls be, lj 0, ls be])), (6, some (.cells [lj r1.1, li .u8 (IntKind.wrap .u8 r2.1), lj r4.1, lj r5.1, lj i9, ls s10, lj 0, ls be, lj 0, ls be, lj 0, ls be])), (11, some (.cells (Reader.cells g8)))] (F71_u11 n r1 r2 r4 r5 g8 i9 s10) (QB 0 (QT Try.prog D (n + 8) pc71_c65 (QF false pc71_r 0 F71_e))) := by
    unfold F71_u11
    refine SimL.succ (.seq (.rg [(2, qp 2 0), (5, qp 11 0), (6, qp 6 0), (51, qj 1)] [(2, some (.cells [lj 0, li .u8 0, lj 0, lj 0, lj 0, ls be, lj 0, ls be, lj 0, ls be, lj 0, ls be])), (6, some (.cells [lj r1.1, li .u8 (IntKind.wrap .u8 r2.1), lj r4.1, lj r5.1, lj i9, ls s10, lj 0, ls be, lj 0, ls be, lj 0, ls be])), (11, some (.cells (Reader.cells g8)))] (.rd 1 [(52, qb true)] [] (.thenN (.seq (.condT (by kernel_rfl) (.skip (.thenN (.seq (.block (.sr 2 [(8, qj 1), (53, qj 1)] [] (.block (.sr 6 [(54, qb (g8.e != 0)), (59, qb (g8.e != 0)), (58, qj g8.e), (57, qp 11 2), (56, qp 11 0), (55, qp 11 0)] [] (.cond (g8.e != 0) (by kernel_rfl) ?_ ?_))))))))))))))
    · refine Sim.exit (.blockY rfl (.blockY rfl (.thenX (.loopX (.blockX (.thenN (.pr [2, 5, 6] [2, 6, 11] [] [(2, qp 2 0), (5, qp 11 0), (6, qp 6 0)] [(2, some (.cells [lj 0, li .u8 0, lj 0, lj 0, lj 0, ls be, lj 0, ls be, lj 0, ls be, lj 0, ls be])), (6, some (.cells [lj r1.1, li .u8 (IntKind.wrap .u8 r2.1), lj r4.1, lj r5.1, lj i9, ls s10, lj 0, ls be, lj 0, ls be, lj 0, ls be])), (11, some (.cells (Reader.cells g8)))] ?_)))))))
      exact F71_j39_ok n r1 r2 r4 r5 g8 i9 s10 0 be 0 be 0 be
    · refine Sim.st 3 [(63, qj 1), (62, .one (li .u8 (IntKind.wrap .u8 r2.1))), (61, qp 6 1)] [] (.cl 64 true [[], []] 99 [Operand.tmp 62, Operand.tmp 63] none (fun r12 => qb r12) [.one (li .u8 (IntKind.wrap .u8 r2.1)), qj 1] (F99_ok n (IntKind.wrap .u8 r2.1) 1) (fun r12 => ?_))
      refine SimI.rd 1 [(60, qb r12)] [] (.thenN (.cond r12 (by kernel_rfl) ?_ ?_))
      · refine Sim.region0 (.rn 2 [(66, qp 11 0), (65, qj 1)] [] (.bind (og := F105 n g8) ⟨some 67, POp.call true [[]] 105 [Operand.tmp 66], none, []⟩ (fun r13 => [(67, .agg [lj r13.1.N, ls r13.1.Text])]) (fun r13 => [(11, some (.cells (Reader.cells r13.2)))]) (by kernel_rfl) (fun r13 hr => pOp_eff (by kernel_rfl) (by kernel_rfl) (eff_callp (ARGS := [qp 11 0]) (ARGS' := [qp 1000000 0]) (ks := [11]) (os := [(Reader.cells g8)]) (os' := [(Reader.cells r13.2)]) (by kernel_rfl) (args_ptr (by kernel_rfl) args_nil) rfl (by kernel_rfl) (F105_ok n g8 r13 hr) (by kernel_rfl) (by kernel_rfl))) (fun r13 => ?_)))
        refine SimI.rd 3 [(69, qp 6 6), (68, qp 6 4)] [(6, some (.cells [lj r1.1, li .u8 (IntKind.wrap .u8 r2.1), lj r4.1, lj r5.1, lj i9, ls s10, lj r13.1.N, ls r13.1.Text, lj 0, ls be, lj 0, ls be]))] (.blockN (.blockN (.thenN (.region0 (.rd 2 [(51, qj 2), (70, qj 2)] [] (.loopN (.pr [2, 5, 6, 51] [2, 6, 11] [] [(2, qp 2 0), (5, qp 11 0), (6, qp 6 0), (51, qj 2)] [(2, some (.cells [lj 0, li .u8 0, lj 0, lj 0, lj 0, ls be, lj 0, ls be, lj 0, ls be, lj 0, ls be])), (6, some (.cells [lj r1.1, li .u8 (IntKind.wrap .u8 r2.1), lj r4.1, lj r5.1, lj i9, ls s10, lj r13.1.N, ls r13.1.Text, lj 0, ls be, lj 0, ls be])), (11, some (.cells (Reader.cells r13.2)))] ?_)))))))
        exact F71_u17_ok n r1 r2 r4 r5 i9 s10 r13.2 r13.1.N r13.1.Text
      · refine Sim.skip (.blockN (.blockN (.thenN (.region0 (.rd 2 [(51, qj 2), (70, qj 2)] [] (.loopN (.pr [2, 5, 6, 51] [2, 6, 11] [] [(2, qp 2 0), (5, qp 11 0), (6, qp 6 0), (51, qj 2)] [(2, some (.cells [lj 0, li .u8 0, lj 0, lj 0, lj 0, ls be, lj 0, ls be, lj 0, ls be, lj 0, ls be])), (6, some (.cells [lj r1.1, li .u8 (IntKind.wrap .u8 r2.1), lj r4.1, lj r5.1, lj i9, ls s10, lj 0, ls be, lj 0, ls be, lj 0, ls be])), (11, some (.cells (Reader.cells g8)))] ?_)))))))
        exact F71_u17_ok n r1 r2 r4 r5 i9 s10 g8 0 be

def F71_j74 (n : Nat) (r1 : (Int × Reader)) (r2 : (Int × Reader)) (g65 : Reader) (i66 : Int) (s67 : ByteArray) (i68 : Int) (s69 : ByteArray) (i70 : Int) (s71 : ByteArray) (i72 : Int) (s73 : ByteArray) : Option (Delta × Int × Int) :=
    if g65.e != 0 then
      some ((Delta.mk 0 0 (Point.mk 0 0) (A4.mk (Field.mk 0 ByteArray.empty) (Field.mk 0 ByteArray.empty) (Field.mk 0 ByteArray.empty) (Field.mk 0 ByteArray.empty))), 0, g65.e)
    else
      (F77 n (Delta.mk r1.1 (IntKind.wrap .u8 r2.1) (Point.mk 0 0) (A4.mk (Field.mk i66 s67) (Field.mk i68 s69) (Field.mk i70 s71) (Field.mk i72 s73)))).bind fun (r75 : Bool) =>
      if !(r75) then
        some ((Delta.mk 0 0 (Point.mk 0 0) (A4.mk (Field.mk 0 ByteArray.empty) (Field.mk 0 ByteArray.empty) (Field.mk 0 ByteArray.empty) (Field.mk 0 ByteArray.empty))), 0, 11)
      else
        some ((Delta.mk r1.1 (IntKind.wrap .u8 r2.1) (Point.mk 0 0) (A4.mk (Field.mk i66 s67) (Field.mk i68 s69) (Field.mk i70 s71) (Field.mk i72 s73))), g65.at_, 0)
theorem F71_j74_ok (n : Nat) (r1 : (Int × Reader)) (r2 : (Int × Reader)) (g65 : Reader) (i66 : Int) (s67 : ByteArray) (i68 : Int) (s69 : ByteArray) (i70 : Int) (s71 : ByteArray) (i72 : Int) (s73 : ByteArray) : Sim Try.prog D (n + 8) pc71_c65 [(2, qp 2 0), (5, qp 11 0), (6, qp 6 0)] [(2, some (.cells [lj 0, li .u8 0, lj 0, lj 0, lj 0, ls be, lj 0, ls be, lj 0, ls be, lj 0, ls be])), (6, some (.cells [lj r1.1, li .u8 (IntKind.wrap .u8 r2.1), lj 0, lj 0, lj i66, ls s67, lj i68, ls s69, lj i70, ls s71, lj i72, ls s73])), (11, some (.cells (Reader.cells g65)))] (F71_j74 n r1 r2 g65 i66 s67 i68 s69 i70 s71 i72 s73) (QF false pc71_r 0 F71_e) := by
    unfold F71_j74
    refine Sim.seq (.seq (.rg [(2, qp 2 0), (5, qp 11 0), (6, qp 6 0)] [(2, some (.cells [lj 0, li .u8 0, lj 0, lj 0, lj 0, ls be, lj 0, ls be, lj 0, ls be, lj 0, ls be])), (6, some (.cells [lj r1.1, li .u8 (IntKind.wrap .u8 r2.1), lj 0, lj 0, lj i66, ls s67, lj i68, ls s69, lj i70, ls s71, lj i72, ls s73])), (11, some (.cells (Reader.cells g65)))] (.rd 5 [(75, qb (g65.e != 0)), (74, qj g65.e), (73, qp 11 2), (72, qp 11 0), (71, qp 11 0)] [] (.thenN (.cond (g65.e != 0) (by kernel_rfl) ?_ ?_)))))
    · exact Sim.sr 8 [(4, qj g65.e), (3, qj 0), (80, qj g65.e), (79, qp 11 2), (78, qp 11 0), (77, qp 11 0), (76, .agg [lj 0, li .u8 0, lj 0, lj 0, lj 0, ls be, lj 0, ls be, lj 0, ls be, lj 0, ls be])] [(2, some (.cells [lj 0, li .u8 0, lj 0, lj 0, lj 0, ls be, lj 0, ls be, lj 0, ls be, lj 0, ls be]))] (.ret (.thenR .fn))
    · refine Sim.skip (.thenN (.seq (.st 1 [(81, .agg [lj r1.1, li .u8 (IntKind.wrap .u8 r2.1), lj 0, lj 0, lj i66, ls s67, lj i68, ls s69, lj i70, ls s71, lj i72, ls s73])] [] (.cl 82 true [[]] 77 [Operand.tmp 81] none (fun r75 => qb r75) [.agg [lj r1.1, li .u8 (IntKind.wrap .u8 r2.1), lj 0, lj 0, lj i66, ls s67, lj i68, ls s69, lj i70, ls s71, lj i72, ls s73]] (F77_ok n (Delta.mk r1.1 (IntKind.wrap .u8 r2.1) (Point.mk 0 0) (A4.mk (Field.mk i66 s67) (Field.mk i68 s69) (Field.mk i70 s71) (Field.mk i72 s73)))) (fun r75 => ?_)))))
      refine SimI.rd 1 [(83, qb (!(r75)))] [] (.thenN (.cond (!(r75)) (by kernel_rfl) ?_ ?_))
      · exact Sim.sr 4 [(4, qj 11), (3, qj 0), (84, .agg [lj 0, li .u8 0, lj 0, lj 0, lj 0, ls be, lj 0, ls be, lj 0, ls be, lj 0, ls be])] [(2, some (.cells [lj 0, li .u8 0, lj 0, lj 0, lj 0, ls be, lj 0, ls be, lj 0, ls be, lj 0, ls be]))] (.ret (.thenR .fn))
      · exact Sim.skip (.thenN (.sr 8 [(4, qj 0), (3, qj g65.at_), (89, qj g65.at_), (88, qp 11 1), (87, qp 11 0), (86, qp 11 0), (85, .agg [lj r1.1, li .u8 (IntKind.wrap .u8 r2.1), lj 0, lj 0, lj i66, ls s67, lj i68, ls s69, lj i70, ls s71, lj i72, ls s73])] [(2, some (.cells [lj r1.1, li .u8 (IntKind.wrap .u8 r2.1), lj 0, lj 0, lj i66, ls s67, lj i68, ls s69, lj i70, ls s71, lj i72, ls s73]))] (.ret .fn)))

def F71_u64 (n : Nat) (r1 : (Int × Reader)) (r2 : (Int × Reader)) (i44 : Int) (s45 : ByteArray) (i50 : Int) (s51 : ByteArray) (i56 : Int) (s57 : ByteArray) (g61 : Reader) (i62 : Int) (s63 : ByteArray) : Option (Delta × Int × Int) :=
    F71_j74 n r1 r2 g61 i44 s45 i50 s51 i56 s57 i62 s63
theorem F71_u64_ok (n : Nat) (r1 : (Int × Reader)) (r2 : (Int × Reader)) (i44 : Int) (s45 : ByteArray) (i50 : Int) (s51 : ByteArray) (i56 : Int) (s57 : ByteArray) (g61 : Reader) (i62 : Int) (s63 : ByteArray) : SimL Try.prog D (n + 8) (n + 4) pc71_c43 [(2, qp 2 0), (5, qp 11 0), (6, qp 6 0), (51, qj 4)] [(2, some (.cells [lj 0, li .u8 0, lj 0, lj 0, lj 0, ls be, lj 0, ls be, lj 0, ls be, lj 0, ls be])), (6, some (.cells [lj r1.1, li .u8 (IntKind.wrap .u8 r2.1), lj 0, lj 0, lj i44, ls s45, lj i50, ls s51, lj i56, ls s57, lj i62, ls s63])), (11, some (.cells (Reader.cells g61)))] (F71_u64 n r1 r2 i44 s45 i50 s51 i56 s57 g61 i62 s63) (QB 0 (QT Try.prog D (n + 8) pc71_c65 (QF false pc71_r 0 F71_e))) := by
    unfold F71_u64
    refine SimL.succ (.seq (.rg [(2, qp 2 0), (5, qp 11 0), (6, qp 6 0), (51, qj 4)] [(2, some (.cells [lj 0, li .u8 0, lj 0, lj 0, lj 0, ls be, lj 0, ls be, lj 0, ls be, lj 0, ls be])), (6, some (.cells [lj r1.1, li .u8 (IntKind.wrap .u8 r2.1), lj 0, lj 0, lj i44, ls s45, lj i50, ls s51, lj i56, ls s57, lj i62, ls s63])), (11, some (.cells (Reader.cells g61)))] (.rd 1 [(52, qb false)] [] (.thenN (.seq (.condF (by kernel_rfl) (.exit (.thenX (.loopX (.blockX (.thenN (.pr [2, 5, 6] [2, 6, 11] [] [(2, qp 2 0), (5, qp 11 0), (6, qp 6 0)] [(2, some (.cells [lj 0, li .u8 0, lj 0, lj 0, lj 0, ls be, lj 0, ls be, lj 0, ls be, lj 0, ls be])), (6, some (.cells [lj r1.1, li .u8 (IntKind.wrap .u8 r2.1), lj 0, lj 0, lj i44, ls s45, lj i50, ls s51, lj i56, ls s57, lj i62, ls s63])), (11, some (.cells (Reader.cells g61)))] ?_))))))))))))
    exact F71_j74_ok n r1 r2 g61 i44 s45 i50 s51 i56 s57 i62 s63

def F71_u58 (n : Nat) (r1 : (Int × Reader)) (r2 : (Int × Reader)) (i44 : Int) (s45 : ByteArray) (i50 : Int) (s51 : ByteArray) (g55 : Reader) (i56 : Int) (s57 : ByteArray) : Option (Delta × Int × Int) :=
    if g55.e != 0 then
      F71_j74 n r1 r2 g55 i44 s45 i50 s51 i56 s57 0 ByteArray.empty
    else
      (F99 n (IntKind.wrap .u8 r2.1) 3).bind fun (r59 : Bool) =>
      if r59 then
        (F105 n g55).bind fun (r60 : (Field × Reader)) =>
        F71_u64 n r1 r2 i44 s45 i50 s51 i56 s57 r60.2 r60.1.N r60.1.Text
      else
        F71_u64 n r1 r2 i44 s45 i50 s51 i56 s57 g55 0 ByteArray.empty
theorem F71_u58_ok (n : Nat) (r1 : (Int × Reader)) (r2 : (Int × Reader)) (i44 : Int) (s45 : ByteArray) (i50 : Int) (s51 : ByteArray) (g55 : Reader) (i56 : Int) (s57 : ByteArray) : SimL Try.prog D (n + 8) (n + 5) pc71_c43 [(2, qp 2 0), (5, qp 11 0), (6, qp 6 0), (51, qj 3)] [(2, some (.cells [lj 0, li .u8 0, lj 0, lj 0, lj 0, ls be, lj 0, ls be, lj 0, ls be, lj 0, ls be])), (6, some (.cells [lj r1.1, li .u8 (IntKind.wrap .u8 r2.1), lj 0, lj 0, lj i44, ls s45, lj i50, ls s51, lj i56, ls s57, lj 0, ls be])), (11, some (.cells (Reader.cells g55)))] (F71_u58 n r1 r2 i44 s45 i50 s51 g55 i56 s57) (QB 0 (QT Try.prog D (n + 8) pc71_c65 (QF false pc71_r 0 F71_e))) := by
    unfold F71_u58
    refine SimL.succ (.seq (.rg [(2, qp 2 0), (5, qp 11 0), (6, qp 6 0), (51, qj 3)] [(2, some (.cells [lj 0, li .u8 0, lj 0, lj 0, lj 0, ls be, lj 0, ls be, lj 0, ls be, lj 0, ls be])), (6, some (.cells [lj r1.1, li .u8 (IntKind.wrap .u8 r2.1), lj 0, lj 0, lj i44, ls s45, lj i50, ls s51, lj i56, ls s57, lj 0, ls be])), (11, some (.cells (Reader.cells g55)))] (.rd 1 [(52, qb true)] [] (.thenN (.seq (.condT (by kernel_rfl) (.skip (.thenN (.seq (.block (.sr 2 [(8, qj 3), (53, qj 3)] [] (.block (.sr 6 [(54, qb (g55.e != 0)), (59, qb (g55.e != 0)), (58, qj g55.e), (57, qp 11 2), (56, qp 11 0), (55, qp 11 0)] [] (.cond (g55.e != 0) (by kernel_rfl) ?_ ?_))))))))))))))
    · refine Sim.exit (.blockY rfl (.blockY rfl (.thenX (.loopX (.blockX (.thenN (.pr [2, 5, 6] [2, 6, 11] [] [(2, qp 2 0), (5, qp 11 0), (6, qp 6 0)] [(2, some (.cells [lj 0, li .u8 0, lj 0, lj 0, lj 0, ls be, lj 0, ls be, lj 0, ls be, lj 0, ls be])), (6, some (.cells [lj r1.1, li .u8 (IntKind.wrap .u8 r2.1), lj 0, lj 0, lj i44, ls s45, lj i50, ls s51, lj i56, ls s57, lj 0, ls be])), (11, some (.cells (Reader.cells g55)))] ?_)))))))
      exact F71_j74_ok n r1 r2 g55 i44 s45 i50 s51 i56 s57 0 be
    · refine Sim.st 3 [(63, qj 3), (62, .one (li .u8 (IntKind.wrap .u8 r2.1))), (61, qp 6 1)] [] (.cl 64 true [[], []] 99 [Operand.tmp 62, Operand.tmp 63] none (fun r59 => qb r59) [.one (li .u8 (IntKind.wrap .u8 r2.1)), qj 3] (F99_ok n (IntKind.wrap .u8 r2.1) 3) (fun r59 => ?_))
      refine SimI.rd 1 [(60, qb r59)] [] (.thenN (.cond r59 (by kernel_rfl) ?_ ?_))
      · refine Sim.region0 (.rn 2 [(66, qp 11 0), (65, qj 3)] [] (.bind (og := F105 n g55) ⟨some 67, POp.call true [[]] 105 [Operand.tmp 66], none, []⟩ (fun r60 => [(67, .agg [lj r60.1.N, ls r60.1.Text])]) (fun r60 => [(11, some (.cells (Reader.cells r60.2)))]) (by kernel_rfl) (fun r60 hr => pOp_eff (by kernel_rfl) (by kernel_rfl) (eff_callp (ARGS := [qp 11 0]) (ARGS' := [qp 1000000 0]) (ks := [11]) (os := [(Reader.cells g55)]) (os' := [(Reader.cells r60.2)]) (by kernel_rfl) (args_ptr (by kernel_rfl) args_nil) rfl (by kernel_rfl) (F105_ok n g55 r60 hr) (by kernel_rfl) (by kernel_rfl))) (fun r60 => ?_)))
        refine SimI.rd 3 [(69, qp 6 10), (68, qp 6 4)] [(6, some (.cells [lj r1.1, li .u8 (IntKind.wrap .u8 r2.1), lj 0, lj 0, lj i44, ls s45, lj i50, ls s51, lj i56, ls s57, lj r60.1.N, ls r60.1.Text]))] (.blockN (.blockN (.thenN (.region0 (.rd 2 [(51, qj 4), (70, qj 4)] [] (.loopN (.pr [2, 5, 6, 51] [2, 6, 11] [] [(2, qp 2 0), (5, qp 11 0), (6, qp 6 0), (51, qj 4)] [(2, some (.cells [lj 0, li .u8 0, lj 0, lj 0, lj 0, ls be, lj 0, ls be, lj 0, ls be, lj 0, ls be])), (6, some (.cells [lj r1.1, li .u8 (IntKind.wrap .u8 r2.1), lj 0, lj 0, lj i44, ls s45, lj i50, ls s51, lj i56, ls s57, lj r60.1.N, ls r60.1.Text])), (11, some (.cells (Reader.cells r60.2)))] ?_)))))))
        exact F71_u64_ok n r1 r2 i44 s45 i50 s51 i56 s57 r60.2 r60.1.N r60.1.Text
      · refine Sim.skip (.blockN (.blockN (.thenN (.region0 (.rd 2 [(51, qj 4), (70, qj 4)] [] (.loopN (.pr [2, 5, 6, 51] [2, 6, 11] [] [(2, qp 2 0), (5, qp 11 0), (6, qp 6 0), (51, qj 4)] [(2, some (.cells [lj 0, li .u8 0, lj 0, lj 0, lj 0, ls be, lj 0, ls be, lj 0, ls be, lj 0, ls be])), (6, some (.cells [lj r1.1, li .u8 (IntKind.wrap .u8 r2.1), lj 0, lj 0, lj i44, ls s45, lj i50, ls s51, lj i56, ls s57, lj 0, ls be])), (11, some (.cells (Reader.cells g55)))] ?_)))))))
        exact F71_u64_ok n r1 r2 i44 s45 i50 s51 i56 s57 g55 0 be

def F71_u52 (n : Nat) (r1 : (Int × Reader)) (r2 : (Int × Reader)) (i44 : Int) (s45 : ByteArray) (g49 : Reader) (i50 : Int) (s51 : ByteArray) : Option (Delta × Int × Int) :=
    if g49.e != 0 then
      F71_j74 n r1 r2 g49 i44 s45 i50 s51 0 ByteArray.empty 0 ByteArray.empty
    else
      (F99 n (IntKind.wrap .u8 r2.1) 2).bind fun (r53 : Bool) =>
      if r53 then
        (F105 n g49).bind fun (r54 : (Field × Reader)) =>
        F71_u58 n r1 r2 i44 s45 i50 s51 r54.2 r54.1.N r54.1.Text
      else
        F71_u58 n r1 r2 i44 s45 i50 s51 g49 0 ByteArray.empty
theorem F71_u52_ok (n : Nat) (r1 : (Int × Reader)) (r2 : (Int × Reader)) (i44 : Int) (s45 : ByteArray) (g49 : Reader) (i50 : Int) (s51 : ByteArray) : SimL Try.prog D (n + 8) (n + 6) pc71_c43 [(2, qp 2 0), (5, qp 11 0), (6, qp 6 0), (51, qj 2)] [(2, some (.cells [lj 0, li .u8 0, lj 0, lj 0, lj 0, ls be, lj 0, ls be, lj 0, ls be, lj 0, ls be])), (6, some (.cells [lj r1.1, li .u8 (IntKind.wrap .u8 r2.1), lj 0, lj 0, lj i44, ls s45, lj i50, ls s51, lj 0, ls be, lj 0, ls be])), (11, some (.cells (Reader.cells g49)))] (F71_u52 n r1 r2 i44 s45 g49 i50 s51) (QB 0 (QT Try.prog D (n + 8) pc71_c65 (QF false pc71_r 0 F71_e))) := by
    unfold F71_u52
    refine SimL.succ (.seq (.rg [(2, qp 2 0), (5, qp 11 0), (6, qp 6 0), (51, qj 2)] [(2, some (.cells [lj 0, li .u8 0, lj 0, lj 0, lj 0, ls be, lj 0, ls be, lj 0, ls be, lj 0, ls be])), (6, some (.cells [lj r1.1, li .u8 (IntKind.wrap .u8 r2.1), lj 0, lj 0, lj i44, ls s45, lj i50, ls s51, lj 0, ls be, lj 0, ls be])), (11, some (.cells (Reader.cells g49)))] (.rd 1 [(52, qb true)] [] (.thenN (.seq (.condT (by kernel_rfl) (.skip (.thenN (.seq (.block (.sr 2 [(8, qj 2), (53, qj 2)] [] (.block (.sr 6 [(54, qb (g49.e != 0)), (59, qb (g49.e != 0)), (58, qj g49.e), (57, qp 11 2), (56, qp 11 0), (55, qp 11 0)] [] (.cond (g49.e != 0) (by kernel_rfl) ?_ ?_))))))))))))))
    · refine Sim.exit (.blockY rfl (.blockY rfl (.thenX (.loopX (.blockX (.thenN (.pr [2, 5, 6] [2, 6, 11] [] [(2, qp 2 0), (5, qp 11 0), (6, qp 6 0)] [(2, some (.cells [lj 0, li .u8 0, lj 0, lj 0, lj 0, ls be, lj 0, ls be, lj 0, ls be, lj 0, ls be])), (6, some (.cells [lj r1.1, li .u8 (IntKind.wrap .u8 r2.1), lj 0, lj 0, lj i44, ls s45, lj i50, ls s51, lj 0, ls be, lj 0, ls be])), (11, some (.cells (Reader.cells g49)))] ?_)))))))
      exact F71_j74_ok n r1 r2 g49 i44 s45 i50 s51 0 be 0 be
    · refine Sim.st 3 [(63, qj 2), (62, .one (li .u8 (IntKind.wrap .u8 r2.1))), (61, qp 6 1)] [] (.cl 64 true [[], []] 99 [Operand.tmp 62, Operand.tmp 63] none (fun r53 => qb r53) [.one (li .u8 (IntKind.wrap .u8 r2.1)), qj 2] (F99_ok n (IntKind.wrap .u8 r2.1) 2) (fun r53 => ?_))
      refine SimI.rd 1 [(60, qb r53)] [] (.thenN (.cond r53 (by kernel_rfl) ?_ ?_))
      · refine Sim.region0 (.rn 2 [(66, qp 11 0), (65, qj 2)] [] (.bind (og := F105 n g49) ⟨some 67, POp.call true [[]] 105 [Operand.tmp 66], none, []⟩ (fun r54 => [(67, .agg [lj r54.1.N, ls r54.1.Text])]) (fun r54 => [(11, some (.cells (Reader.cells r54.2)))]) (by kernel_rfl) (fun r54 hr => pOp_eff (by kernel_rfl) (by kernel_rfl) (eff_callp (ARGS := [qp 11 0]) (ARGS' := [qp 1000000 0]) (ks := [11]) (os := [(Reader.cells g49)]) (os' := [(Reader.cells r54.2)]) (by kernel_rfl) (args_ptr (by kernel_rfl) args_nil) rfl (by kernel_rfl) (F105_ok n g49 r54 hr) (by kernel_rfl) (by kernel_rfl))) (fun r54 => ?_)))
        refine SimI.rd 3 [(69, qp 6 8), (68, qp 6 4)] [(6, some (.cells [lj r1.1, li .u8 (IntKind.wrap .u8 r2.1), lj 0, lj 0, lj i44, ls s45, lj i50, ls s51, lj r54.1.N, ls r54.1.Text, lj 0, ls be]))] (.blockN (.blockN (.thenN (.region0 (.rd 2 [(51, qj 3), (70, qj 3)] [] (.loopN (.pr [2, 5, 6, 51] [2, 6, 11] [] [(2, qp 2 0), (5, qp 11 0), (6, qp 6 0), (51, qj 3)] [(2, some (.cells [lj 0, li .u8 0, lj 0, lj 0, lj 0, ls be, lj 0, ls be, lj 0, ls be, lj 0, ls be])), (6, some (.cells [lj r1.1, li .u8 (IntKind.wrap .u8 r2.1), lj 0, lj 0, lj i44, ls s45, lj i50, ls s51, lj r54.1.N, ls r54.1.Text, lj 0, ls be])), (11, some (.cells (Reader.cells r54.2)))] ?_)))))))
        exact F71_u58_ok n r1 r2 i44 s45 i50 s51 r54.2 r54.1.N r54.1.Text
      · refine Sim.skip (.blockN (.blockN (.thenN (.region0 (.rd 2 [(51, qj 3), (70, qj 3)] [] (.loopN (.pr [2, 5, 6, 51] [2, 6, 11] [] [(2, qp 2 0), (5, qp 11 0), (6, qp 6 0), (51, qj 3)] [(2, some (.cells [lj 0, li .u8 0, lj 0, lj 0, lj 0, ls be, lj 0, ls be, lj 0, ls be, lj 0, ls be])), (6, some (.cells [lj r1.1, li .u8 (IntKind.wrap .u8 r2.1), lj 0, lj 0, lj i44, ls s45, lj i50, ls s51, lj 0, ls be, lj 0, ls be])), (11, some (.cells (Reader.cells g49)))] ?_)))))))
        exact F71_u58_ok n r1 r2 i44 s45 i50 s51 g49 0 be

def F71_u46 (n : Nat) (r1 : (Int × Reader)) (r2 : (Int × Reader)) (g43 : Reader) (i44 : Int) (s45 : ByteArray) : Option (Delta × Int × Int) :=
    if g43.e != 0 then
      F71_j74 n r1 r2 g43 i44 s45 0 ByteArray.empty 0 ByteArray.empty 0 ByteArray.empty
    else
      (F99 n (IntKind.wrap .u8 r2.1) 1).bind fun (r47 : Bool) =>
      if r47 then
        (F105 n g43).bind fun (r48 : (Field × Reader)) =>
        F71_u52 n r1 r2 i44 s45 r48.2 r48.1.N r48.1.Text
      else
        F71_u52 n r1 r2 i44 s45 g43 0 ByteArray.empty
theorem F71_u46_ok (n : Nat) (r1 : (Int × Reader)) (r2 : (Int × Reader)) (g43 : Reader) (i44 : Int) (s45 : ByteArray) : SimL Try.prog D (n + 8) (n + 7) pc71_c43 [(2, qp 2 0), (5, qp 11 0), (6, qp 6 0), (51, qj 1)] [(2, some (.cells [lj 0, li .u8 0, lj 0, lj 0, lj 0, ls be, lj 0, ls be, lj 0, ls be, lj 0, ls be])), (6, some (.cells [lj r1.1, li .u8 (IntKind.wrap .u8 r2.1), lj 0, lj 0, lj i44, ls s45, lj 0, ls be, lj 0, ls be, lj 0, ls be])), (11, some (.cells (Reader.cells g43)))] (F71_u46 n r1 r2 g43 i44 s45) (QB 0 (QT Try.prog D (n + 8) pc71_c65 (QF false pc71_r 0 F71_e))) := by
    unfold F71_u46
    refine SimL.succ (.seq (.rg [(2, qp 2 0), (5, qp 11 0), (6, qp 6 0), (51, qj 1)] [(2, some (.cells [lj 0, li .u8 0, lj 0, lj 0, lj 0, ls be, lj 0, ls be, lj 0, ls be, lj 0, ls be])), (6, some (.cells [lj r1.1, li .u8 (IntKind.wrap .u8 r2.1), lj 0, lj 0, lj i44, ls s45, lj 0, ls be, lj 0, ls be, lj 0, ls be])), (11, some (.cells (Reader.cells g43)))] (.rd 1 [(52, qb true)] [] (.thenN (.seq (.condT (by kernel_rfl) (.skip (.thenN (.seq (.block (.sr 2 [(8, qj 1), (53, qj 1)] [] (.block (.sr 6 [(54, qb (g43.e != 0)), (59, qb (g43.e != 0)), (58, qj g43.e), (57, qp 11 2), (56, qp 11 0), (55, qp 11 0)] [] (.cond (g43.e != 0) (by kernel_rfl) ?_ ?_))))))))))))))
    · refine Sim.exit (.blockY rfl (.blockY rfl (.thenX (.loopX (.blockX (.thenN (.pr [2, 5, 6] [2, 6, 11] [] [(2, qp 2 0), (5, qp 11 0), (6, qp 6 0)] [(2, some (.cells [lj 0, li .u8 0, lj 0, lj 0, lj 0, ls be, lj 0, ls be, lj 0, ls be, lj 0, ls be])), (6, some (.cells [lj r1.1, li .u8 (IntKind.wrap .u8 r2.1), lj 0, lj 0, lj i44, ls s45, lj 0, ls be, lj 0, ls be, lj 0, ls be])), (11, some (.cells (Reader.cells g43)))] ?_)))))))
      exact F71_j74_ok n r1 r2 g43 i44 s45 0 be 0 be 0 be
    · refine Sim.st 3 [(63, qj 1), (62, .one (li .u8 (IntKind.wrap .u8 r2.1))), (61, qp 6 1)] [] (.cl 64 true [[], []] 99 [Operand.tmp 62, Operand.tmp 63] none (fun r47 => qb r47) [.one (li .u8 (IntKind.wrap .u8 r2.1)), qj 1] (F99_ok n (IntKind.wrap .u8 r2.1) 1) (fun r47 => ?_))
      refine SimI.rd 1 [(60, qb r47)] [] (.thenN (.cond r47 (by kernel_rfl) ?_ ?_))
      · refine Sim.region0 (.rn 2 [(66, qp 11 0), (65, qj 1)] [] (.bind (og := F105 n g43) ⟨some 67, POp.call true [[]] 105 [Operand.tmp 66], none, []⟩ (fun r48 => [(67, .agg [lj r48.1.N, ls r48.1.Text])]) (fun r48 => [(11, some (.cells (Reader.cells r48.2)))]) (by kernel_rfl) (fun r48 hr => pOp_eff (by kernel_rfl) (by kernel_rfl) (eff_callp (ARGS := [qp 11 0]) (ARGS' := [qp 1000000 0]) (ks := [11]) (os := [(Reader.cells g43)]) (os' := [(Reader.cells r48.2)]) (by kernel_rfl) (args_ptr (by kernel_rfl) args_nil) rfl (by kernel_rfl) (F105_ok n g43 r48 hr) (by kernel_rfl) (by kernel_rfl))) (fun r48 => ?_)))
        refine SimI.rd 3 [(69, qp 6 6), (68, qp 6 4)] [(6, some (.cells [lj r1.1, li .u8 (IntKind.wrap .u8 r2.1), lj 0, lj 0, lj i44, ls s45, lj r48.1.N, ls r48.1.Text, lj 0, ls be, lj 0, ls be]))] (.blockN (.blockN (.thenN (.region0 (.rd 2 [(51, qj 2), (70, qj 2)] [] (.loopN (.pr [2, 5, 6, 51] [2, 6, 11] [] [(2, qp 2 0), (5, qp 11 0), (6, qp 6 0), (51, qj 2)] [(2, some (.cells [lj 0, li .u8 0, lj 0, lj 0, lj 0, ls be, lj 0, ls be, lj 0, ls be, lj 0, ls be])), (6, some (.cells [lj r1.1, li .u8 (IntKind.wrap .u8 r2.1), lj 0, lj 0, lj i44, ls s45, lj r48.1.N, ls r48.1.Text, lj 0, ls be, lj 0, ls be])), (11, some (.cells (Reader.cells r48.2)))] ?_)))))))
        exact F71_u52_ok n r1 r2 i44 s45 r48.2 r48.1.N r48.1.Text
      · refine Sim.skip (.blockN (.blockN (.thenN (.region0 (.rd 2 [(51, qj 2), (70, qj 2)] [] (.loopN (.pr [2, 5, 6, 51] [2, 6, 11] [] [(2, qp 2 0), (5, qp 11 0), (6, qp 6 0), (51, qj 2)] [(2, some (.cells [lj 0, li .u8 0, lj 0, lj 0, lj 0, ls be, lj 0, ls be, lj 0, ls be, lj 0, ls be])), (6, some (.cells [lj r1.1, li .u8 (IntKind.wrap .u8 r2.1), lj 0, lj 0, lj i44, ls s45, lj 0, ls be, lj 0, ls be, lj 0, ls be])), (11, some (.cells (Reader.cells g43)))] ?_)))))))
        exact F71_u52_ok n r1 r2 i44 s45 g43 0 be

def F71_j3 (n : Nat) (r1 : (Int × Reader)) (r2 : (Int × Reader)) : Option (Delta × Int × Int) :=
    if (bitsI .and .u8 (IntKind.wrap .u8 r2.1) 1) != 0 then
      (F104 n r2.2).bind fun (r4 : (Int × Reader)) =>
      (F104 n r4.2).bind fun (r5 : (Int × Reader)) =>
      if r5.2.e != 0 then
        F71_j39 n r1 r2 r4 r5 r5.2 0 ByteArray.empty 0 ByteArray.empty 0 ByteArray.empty 0 ByteArray.empty
      else
        (F99 n (IntKind.wrap .u8 r2.1) 0).bind fun (r6 : Bool) =>
        if r6 then
          (F105 n r5.2).bind fun (r7 : (Field × Reader)) =>
          F71_u11 n r1 r2 r4 r5 r7.2 r7.1.N r7.1.Text
        else
          F71_u11 n r1 r2 r4 r5 r5.2 0 ByteArray.empty
    else
      if r2.2.e != 0 then
        F71_j74 n r1 r2 r2.2 0 ByteArray.empty 0 ByteArray.empty 0 ByteArray.empty 0 ByteArray.empty
      else
        (F99 n (IntKind.wrap .u8 r2.1) 0).bind fun (r41 : Bool) =>
        if r41 then
          (F105 n r2.2).bind fun (r42 : (Field × Reader)) =>
          F71_u46 n r1 r2 r42.2 r42.1.N r42.1.Text
        else
          F71_u46 n r1 r2 r2.2 0 ByteArray.empty
theorem F71_j3_ok (n : Nat) (r1 : (Int × Reader)) (r2 : (Int × Reader)) : Sim Try.prog D (n + 8) pc71_c68 [(2, qp 2 0), (5, qp 11 0), (6, qp 6 0), (7, qj r2.1)] [(2, some (.cells [lj 0, li .u8 0, lj 0, lj 0, lj 0, ls be, lj 0, ls be, lj 0, ls be, lj 0, ls be])), (6, some (.cells [lj r1.1, li .u8 0, lj 0, lj 0, lj 0, ls be, lj 0, ls be, lj 0, ls be, lj 0, ls be])), (11, some (.cells (Reader.cells r2.2)))] (F71_j3 n r1 r2) (QF false pc71_r 0 F71_e) := by
    unfold F71_j3
    refine Sim.seq (.seq (.rg [(2, qp 2 0), (5, qp 11 0), (6, qp 6 0), (7, qj r2.1)] [(2, some (.cells [lj 0, li .u8 0, lj 0, lj 0, lj 0, ls be, lj 0, ls be, lj 0, ls be, lj 0, ls be])), (6, some (.cells [lj r1.1, li .u8 0, lj 0, lj 0, lj 0, ls be, lj 0, ls be, lj 0, ls be, lj 0, ls be])), (11, some (.cells (Reader.cells r2.2)))] (.rd 4 [(38, qp 6 1), (37, .one (li .u8 (IntKind.wrap .u8 r2.1))), (36, qj r2.1)] [(6, some (.cells [lj r1.1, li .u8 (IntKind.wrap .u8 r2.1), lj 0, lj 0, lj 0, ls be, lj 0, ls be, lj 0, ls be, lj 0, ls be]))] (.thenN (.sr 4 [(42, qb ((bitsI .and .u8 (IntKind.wrap .u8 r2.1) 1) != 0)), (41, .one (li .u8 (bitsI .and .u8 (IntKind.wrap .u8 r2.1) 1))), (40, .one (li .u8 (IntKind.wrap .u8 r2.1))), (39, qp 6 1)] [] (.cond ((bitsI .and .u8 (IntKind.wrap .u8 r2.1) 1) != 0) (by kernel_rfl) ?_ ?_))))))
    · refine Sim.st 1 [(43, qp 11 0)] [] (.bind (og := F104 n r2.2) ⟨some 44, POp.call true [[]] 104 [Operand.tmp 43], none, []⟩ (fun r4 => [(44, qj r4.1)]) (fun r4 => [(11, some (.cells (Reader.cells r4.2)))]) (by kernel_rfl) (fun r4 hr => pOp_eff (by kernel_rfl) (by kernel_rfl) (eff_callp (ARGS := [qp 11 0]) (ARGS' := [qp 1000000 0]) (ks := [11]) (os := [(Reader.cells r2.2)]) (os' := [(Reader.cells r4.2)]) (by kernel_rfl) (args_ptr (by kernel_rfl) args_nil) rfl (by kernel_rfl) (F104_ok n r2.2 r4 hr) (by kernel_rfl) (by kernel_rfl))) (fun r4 => ?_))
      refine SimI.rd 3 [(46, qp 6 2), (45, qp 6 2)] [(6, some (.cells [lj r1.1, li .u8 (IntKind.wrap .u8 r2.1), lj r4.1, lj 0, lj 0, ls be, lj 0, ls be, lj 0, ls be, lj 0, ls be]))] (.thenN (.region0 (.rn 1 [(47, qp 11 0)] [] (.bind (og := F104 n r4.2) ⟨some 48, POp.call true [[]] 104 [Operand.tmp 47], none, []⟩ (fun r5 => [(48, qj r5.1)]) (fun r5 => [(11, some (.cells (Reader.cells r5.2)))]) (by kernel_rfl) (fun r5 hr => pOp_eff (by kernel_rfl) (by kernel_rfl) (eff_callp (ARGS := [qp 11 0]) (ARGS' := [qp 1000000 0]) (ks := [11]) (os := [(Reader.cells r4.2)]) (os' := [(Reader.cells r5.2)]) (by kernel_rfl) (args_ptr (by kernel_rfl) args_nil) rfl (by kernel_rfl) (F104_ok n r4.2 r5 hr) (by kernel_rfl) (by kernel_rfl))) (fun r5 => ?_)))))
      refine SimI.rd 3 [(50, qp 6 3), (49, qp 6 2)] [(6, some (.cells [lj r1.1, li .u8 (IntKind.wrap .u8 r2.1), lj r4.1, lj r5.1, lj 0, ls be, lj 0, ls be, lj 0, ls be, lj 0, ls be]))] (.thenN (.seq (.label (.thenN (.seq (.sr 1 [(51, qj 0)] [] (.block (.loop (.succ (.seq (.rg [(2, qp 2 0), (5, qp 11 0), (6, qp 6 0), (51, qj 0)] [(2, some (.cells [lj 0, li .u8 0, lj 0, lj 0, lj 0, ls be, lj 0, ls be, lj 0, ls be, lj 0, ls be])), (6, some (.cells [lj r1.1, li .u8 (IntKind.wrap .u8 r2.1), lj r4.1, lj r5.1, lj 0, ls be, lj 0, ls be, lj 0, ls be, lj 0, ls be])), (11, some (.cells (Reader.cells r5.2)))] (.rd 1 [(52, qb true)] [] (.thenN (.seq (.condT (by kernel_rfl) (.skip (.thenN (.seq (.block (.sr 2 [(8, qj 0), (53, qj 0)] [] (.block (.sr 6 [(54, qb (r5.2.e != 0)), (59, qb (r5.2.e != 0)), (58, qj r5.2.e), (57, qp 11 2), (56, qp 11 0), (55, qp 11 0)] [] (.cond (r5.2.e != 0) (by kernel_rfl) ?_ ?_)))))))))))))))))))))))
      · refine Sim.exit (.blockY rfl (.blockY rfl (.thenX (.loopX (.blockX (.thenN (.pr [2, 5, 6] [2, 6, 11] [] [(2, qp 2 0), (5, qp 11 0), (6, qp 6 0)] [(2, some (.cells [lj 0, li .u8 0, lj 0, lj 0, lj 0, ls be, lj 0, ls be, lj 0, ls be, lj 0, ls be])), (6, some (.cells [lj r1.1, li .u8 (IntKind.wrap .u8 r2.1), lj r4.1, lj r5.1, lj 0, ls be, lj 0, ls be, lj 0, ls be, lj 0, ls be])), (11, some (.cells (Reader.cells r5.2)))] ?_)))))))
        exact F71_j39_ok n r1 r2 r4 r5 r5.2 0 be 0 be 0 be 0 be
      · refine Sim.st 3 [(63, qj 0), (62, .one (li .u8 (IntKind.wrap .u8 r2.1))), (61, qp 6 1)] [] (.cl 64 true [[], []] 99 [Operand.tmp 62, Operand.tmp 63] none (fun r6 => qb r6) [.one (li .u8 (IntKind.wrap .u8 r2.1)), qj 0] (F99_ok n (IntKind.wrap .u8 r2.1) 0) (fun r6 => ?_))
        refine SimI.rd 1 [(60, qb r6)] [] (.thenN (.cond r6 (by kernel_rfl) ?_ ?_))
        · refine Sim.region0 (.rn 2 [(66, qp 11 0), (65, qj 0)] [] (.bind (og := F105 n r5.2) ⟨some 67, POp.call true [[]] 105 [Operand.tmp 66], none, []⟩ (fun r7 => [(67, .agg [lj r7.1.N, ls r7.1.Text])]) (fun r7 => [(11, some (.cells (Reader.cells r7.2)))]) (by kernel_rfl) (fun r7 hr => pOp_eff (by kernel_rfl) (by kernel_rfl) (eff_callp (ARGS := [qp 11 0]) (ARGS' := [qp 1000000 0]) (ks := [11]) (os := [(Reader.cells r5.2)]) (os' := [(Reader.cells r7.2)]) (by kernel_rfl) (args_ptr (by kernel_rfl) args_nil) rfl (by kernel_rfl) (F105_ok n r5.2 r7 hr) (by kernel_rfl) (by kernel_rfl))) (fun r7 => ?_)))
          refine SimI.rd 3 [(69, qp 6 4), (68, qp 6 4)] [(6, some (.cells [lj r1.1, li .u8 (IntKind.wrap .u8 r2.1), lj r4.1, lj r5.1, lj r7.1.N, ls r7.1.Text, lj 0, ls be, lj 0, ls be, lj 0, ls be]))] (.blockN (.blockN (.thenN (.region0 (.rd 2 [(51, qj 1), (70, qj 1)] [] (.loopN (.pr [2, 5, 6, 51] [2, 6, 11] [] [(2, qp 2 0), (5, qp 11 0), (6, qp 6 0), (51, qj 1)] [(2, some (.cells [lj 0, li .u8 0, lj 0, lj 0, lj 0, ls be, lj 0, ls be, lj 0, ls be, lj 0, ls be])), (6, some (.cells [lj r1.1, li .u8 (IntKind.wrap .u8 r2.1), lj r4.1, lj r5.1, lj r7.1.N, ls r7.1.Text, lj 0, ls be, lj 0, ls be, lj 0, ls be])), (11, some (.cells (Reader.cells r7.2)))] ?_)))))))
          exact F71_u11_ok n r1 r2 r4 r5 r7.2 r7.1.N r7.1.Text
        · refine Sim.skip (.blockN (.blockN (.thenN (.region0 (.rd 2 [(51, qj 1), (70, qj 1)] [] (.loopN (.pr [2, 5, 6, 51] [2, 6, 11] [] [(2, qp 2 0), (5, qp 11 0), (6, qp 6 0), (51, qj 1)] [(2, some (.cells [lj 0, li .u8 0, lj 0, lj 0, lj 0, ls be, lj 0, ls be, lj 0, ls be, lj 0, ls be])), (6, some (.cells [lj r1.1, li .u8 (IntKind.wrap .u8 r2.1), lj r4.1, lj r5.1, lj 0, ls be, lj 0, ls be, lj 0, ls be, lj 0, ls be])), (11, some (.cells (Reader.cells r5.2)))] ?_)))))))
          exact F71_u11_ok n r1 r2 r4 r5 r5.2 0 be
    · refine Sim.skip (.thenN (.seq (.label (.thenN (.seq (.sr 1 [(51, qj 0)] [] (.block (.loop (.succ (.seq (.rg [(2, qp 2 0), (5, qp 11 0), (6, qp 6 0), (51, qj 0)] [(2, some (.cells [lj 0, li .u8 0, lj 0, lj 0, lj 0, ls be, lj 0, ls be, lj 0, ls be, lj 0, ls be])), (6, some (.cells [lj r1.1, li .u8 (IntKind.wrap .u8 r2.1), lj 0, lj 0, lj 0, ls be, lj 0, ls be, lj 0, ls be, lj 0, ls be])), (11, some (.cells (Reader.cells r2.2)))] (.rd 1 [(52, qb true)] [] (.thenN (.seq (.condT (by kernel_rfl) (.skip (.thenN (.seq (.block (.sr 2 [(8, qj 0), (53, qj 0)] [] (.block (.sr 6 [(54, qb (r2.2.e != 0)), (59, qb (r2.2.e != 0)), (58, qj r2.2.e), (57, qp 11 2), (56, qp 11 0), (55, qp 11 0)] [] (.cond (r2.2.e != 0) (by kernel_rfl) ?_ ?_)))))))))))))))))))))))
      · refine Sim.exit (.blockY rfl (.blockY rfl (.thenX (.loopX (.blockX (.thenN (.pr [2, 5, 6] [2, 6, 11] [] [(2, qp 2 0), (5, qp 11 0), (6, qp 6 0)] [(2, some (.cells [lj 0, li .u8 0, lj 0, lj 0, lj 0, ls be, lj 0, ls be, lj 0, ls be, lj 0, ls be])), (6, some (.cells [lj r1.1, li .u8 (IntKind.wrap .u8 r2.1), lj 0, lj 0, lj 0, ls be, lj 0, ls be, lj 0, ls be, lj 0, ls be])), (11, some (.cells (Reader.cells r2.2)))] ?_)))))))
        exact F71_j74_ok n r1 r2 r2.2 0 be 0 be 0 be 0 be
      · refine Sim.st 3 [(63, qj 0), (62, .one (li .u8 (IntKind.wrap .u8 r2.1))), (61, qp 6 1)] [] (.cl 64 true [[], []] 99 [Operand.tmp 62, Operand.tmp 63] none (fun r41 => qb r41) [.one (li .u8 (IntKind.wrap .u8 r2.1)), qj 0] (F99_ok n (IntKind.wrap .u8 r2.1) 0) (fun r41 => ?_))
        refine SimI.rd 1 [(60, qb r41)] [] (.thenN (.cond r41 (by kernel_rfl) ?_ ?_))
        · refine Sim.region0 (.rn 2 [(66, qp 11 0), (65, qj 0)] [] (.bind (og := F105 n r2.2) ⟨some 67, POp.call true [[]] 105 [Operand.tmp 66], none, []⟩ (fun r42 => [(67, .agg [lj r42.1.N, ls r42.1.Text])]) (fun r42 => [(11, some (.cells (Reader.cells r42.2)))]) (by kernel_rfl) (fun r42 hr => pOp_eff (by kernel_rfl) (by kernel_rfl) (eff_callp (ARGS := [qp 11 0]) (ARGS' := [qp 1000000 0]) (ks := [11]) (os := [(Reader.cells r2.2)]) (os' := [(Reader.cells r42.2)]) (by kernel_rfl) (args_ptr (by kernel_rfl) args_nil) rfl (by kernel_rfl) (F105_ok n r2.2 r42 hr) (by kernel_rfl) (by kernel_rfl))) (fun r42 => ?_)))
          refine SimI.rd 3 [(69, qp 6 4), (68, qp 6 4)] [(6, some (.cells [lj r1.1, li .u8 (IntKind.wrap .u8 r2.1), lj 0, lj 0, lj r42.1.N, ls r42.1.Text, lj 0, ls be, lj 0, ls be, lj 0, ls be]))] (.blockN (.blockN (.thenN (.region0 (.rd 2 [(51, qj 1), (70, qj 1)] [] (.loopN (.pr [2, 5, 6, 51] [2, 6, 11] [] [(2, qp 2 0), (5, qp 11 0), (6, qp 6 0), (51, qj 1)] [(2, some (.cells [lj 0, li .u8 0, lj 0, lj 0, lj 0, ls be, lj 0, ls be, lj 0, ls be, lj 0, ls be])), (6, some (.cells [lj r1.1, li .u8 (IntKind.wrap .u8 r2.1), lj 0, lj 0, lj r42.1.N, ls r42.1.Text, lj 0, ls be, lj 0, ls be, lj 0, ls be])), (11, some (.cells (Reader.cells r42.2)))] ?_)))))))
          exact F71_u46_ok n r1 r2 r42.2 r42.1.N r42.1.Text
        · refine Sim.skip (.blockN (.blockN (.thenN (.region0 (.rd 2 [(51, qj 1), (70, qj 1)] [] (.loopN (.pr [2, 5, 6, 51] [2, 6, 11] [] [(2, qp 2 0), (5, qp 11 0), (6, qp 6 0), (51, qj 1)] [(2, some (.cells [lj 0, li .u8 0, lj 0, lj 0, lj 0, ls be, lj 0, ls be, lj 0, ls be, lj 0, ls be])), (6, some (.cells [lj r1.1, li .u8 (IntKind.wrap .u8 r2.1), lj 0, lj 0, lj 0, ls be, lj 0, ls be, lj 0, ls be, lj 0, ls be])), (11, some (.cells (Reader.cells r2.2)))] ?_)))))))
          exact F71_u46_ok n r1 r2 r2.2 0 be

def F71 (n : Nat) (a0 : ByteArray) : Option (Delta × Int × Int) :=
  (F104 n (Reader.mk a0 0 0)).bind fun (r1 : (Int × Reader)) =>
  (F104 n r1.2).bind fun (r2 : (Int × Reader)) =>
  if r2.2.e == 0 then
    if decide ((1000000 : Int) < r1.1) then
      some ((Delta.mk 0 0 (Point.mk 0 0) (A4.mk (Field.mk 0 ByteArray.empty) (Field.mk 0 ByteArray.empty) (Field.mk 0 ByteArray.empty) (Field.mk 0 ByteArray.empty))), 0, 11)
    else
      if r2.1 == 0 then
        some ((Delta.mk 0 0 (Point.mk 0 0) (A4.mk (Field.mk 0 ByteArray.empty) (Field.mk 0 ByteArray.empty) (Field.mk 0 ByteArray.empty) (Field.mk 0 ByteArray.empty))), 0, 11)
      else
        if decide ((31 : Int) < r2.1) then
          some ((Delta.mk 0 0 (Point.mk 0 0) (A4.mk (Field.mk 0 ByteArray.empty) (Field.mk 0 ByteArray.empty) (Field.mk 0 ByteArray.empty) (Field.mk 0 ByteArray.empty))), 0, 11)
        else
          F71_j3 n r1 r2
  else
    F71_j3 n r1 r2
theorem F71_ok (n : Nat) (a0 : ByteArray) : ∀ r, F71 n a0 = some r → D 71 [.one (ls a0)] [] = some (F71_e r) := by
  refine fn_to (D := D) (n := n + 8) (nt := 90) (rs := pc71_r) (c := pc71_c74) (L := [(0, qs a0)]) (M := []) (k := 0) rfl rfl rfl rfl rfl rfl rfl ?_
  unfold F71
  refine Sim.sr 3 [(4, qj 0), (3, qj 0), (2, qp 2 0)] [(2, some (.cells [lj 0, li .u8 0, lj 0, lj 0, lj 0, ls be, lj 0, ls be, lj 0, ls be, lj 0, ls be]))] (.scope (.sr 4 [(5, qp 11 0), (11, qp 11 0), (10, .agg [ls a0, lj 0, lj 0]), (9, qs a0)] [(11, some (.cells [ls a0, lj 0, lj 0]))] (.st 1 [(12, qp 11 0)] [] (.bind (og := F104 n (Reader.mk a0 0 0)) ⟨some 13, POp.call true [[]] 104 [Operand.tmp 12], none, []⟩ (fun r1 => [(13, qj r1.1)]) (fun r1 => [(11, some (.cells (Reader.cells r1.2)))]) (by kernel_rfl) (fun r1 hr => pOp_eff (by kernel_rfl) (by kernel_rfl) (eff_callp (ARGS := [qp 11 0]) (ARGS' := [qp 1000000 0]) (ks := [11]) (os := [[ls a0, lj 0, lj 0]]) (os' := [(Reader.cells r1.2)]) (by kernel_rfl) (args_ptr (by kernel_rfl) args_nil) rfl (by kernel_rfl) (F104_ok n (Reader.mk a0 0 0) r1 hr) (by kernel_rfl) (by kernel_rfl))) (fun r1 => ?_)))))
  refine SimI.rd 3 [(6, qp 6 0), (14, .agg [lj r1.1, li .u8 0, lj 0, lj 0, lj 0, ls be, lj 0, ls be, lj 0, ls be, lj 0, ls be])] [(6, some (.cells [lj r1.1, li .u8 0, lj 0, lj 0, lj 0, ls be, lj 0, ls be, lj 0, ls be, lj 0, ls be])), (6, some (.cells [lj 0, li .u8 0, lj 0, lj 0, lj 0, ls be, lj 0, ls be, lj 0, ls be, lj 0, ls be]))] (.thenN (.st 1 [(15, qp 11 0)] [] (.bind (og := F104 n r1.2) ⟨some 16, POp.call true [[]] 104 [Operand.tmp 15], none, []⟩ (fun r2 => [(16, qj r2.1)]) (fun r2 => [(11, some (.cells (Reader.cells r2.2)))]) (by kernel_rfl) (fun r2 hr => pOp_eff (by kernel_rfl) (by kernel_rfl) (eff_callp (ARGS := [qp 11 0]) (ARGS' := [qp 1000000 0]) (ks := [11]) (os := [(Reader.cells r1.2)]) (os' := [(Reader.cells r2.2)]) (by kernel_rfl) (args_ptr (by kernel_rfl) args_nil) rfl (by kernel_rfl) (F104_ok n r1.2 r2 hr) (by kernel_rfl) (by kernel_rfl))) (fun r2 => ?_))))
  refine SimI.rd 1 [(7, qj r2.1)] [] (.thenN (.seq (.st 6 [(22, qb (r2.2.e == 0)), (21, qb (r2.2.e == 0)), (20, qj r2.2.e), (19, qp 11 2), (18, qp 11 0), (17, qp 11 0)] [] (.split 22 (r2.2.e == 0) (by kernel_rfl) ?_ ?_))))
  · refine SimI.rn 4 [(26, qb (decide ((1000000 : Int) < r1.1))), (25, qb (decide ((1000000 : Int) < r1.1))), (24, qj r1.1), (23, qp 6 0)] [] (.split 26 (decide ((1000000 : Int) < r1.1)) (by kernel_rfl) ?_ ?_)
    · exact SimI.rd 8 [(34, qb true), (33, qb true), (32, .tup []), (31, .tup []), (30, qb true), (29, qb true), (28, .tup []), (27, .tup [])] [] (.thenN (.condT (by kernel_rfl) (.sr 4 [(4, qj 11), (3, qj 0), (35, .agg [lj 0, li .u8 0, lj 0, lj 0, lj 0, ls be, lj 0, ls be, lj 0, ls be, lj 0, ls be])] [(2, some (.cells [lj 0, li .u8 0, lj 0, lj 0, lj 0, ls be, lj 0, ls be, lj 0, ls be, lj 0, ls be]))] (.ret (.thenR .fn)))))
    · refine SimI.rn 4 [(30, qb (r2.1 == 0)), (29, qb (r2.1 == 0)), (28, qb (r2.1 == 0)), (27, qj r2.1)] [] (.split 30 (r2.1 == 0) (by kernel_rfl) ?_ ?_)
      · exact SimI.rd 4 [(34, qb true), (33, qb true), (32, .tup []), (31, .tup [])] [] (.thenN (.condT (by kernel_rfl) (.sr 4 [(4, qj 11), (3, qj 0), (35, .agg [lj 0, li .u8 0, lj 0, lj 0, lj 0, ls be, lj 0, ls be, lj 0, ls be, lj 0, ls be])] [(2, some (.cells [lj 0, li .u8 0, lj 0, lj 0, lj 0, ls be, lj 0, ls be, lj 0, ls be, lj 0, ls be]))] (.ret (.thenR .fn)))))
      · refine SimI.rd 4 [(34, qb (decide ((31 : Int) < r2.1))), (33, qb (decide ((31 : Int) < r2.1))), (32, qb (decide ((31 : Int) < r2.1))), (31, qj r2.1)] [] (.thenN (.cond (decide ((31 : Int) < r2.1)) (by kernel_rfl) ?_ ?_))
        · exact Sim.sr 4 [(4, qj 11), (3, qj 0), (35, .agg [lj 0, li .u8 0, lj 0, lj 0, lj 0, ls be, lj 0, ls be, lj 0, ls be, lj 0, ls be])] [(2, some (.cells [lj 0, li .u8 0, lj 0, lj 0, lj 0, ls be, lj 0, ls be, lj 0, ls be, lj 0, ls be]))] (.ret (.thenR .fn))
        · refine Sim.skip (.thenN (.pr [2, 5, 6, 7] [2, 6, 11] [] [(2, qp 2 0), (5, qp 11 0), (6, qp 6 0), (7, qj r2.1)] [(2, some (.cells [lj 0, li .u8 0, lj 0, lj 0, lj 0, ls be, lj 0, ls be, lj 0, ls be, lj 0, ls be])), (6, some (.cells [lj r1.1, li .u8 0, lj 0, lj 0, lj 0, ls be, lj 0, ls be, lj 0, ls be, lj 0, ls be])), (11, some (.cells (Reader.cells r2.2)))] ?_))
          exact F71_j3_ok n r1 r2
  · refine SimI.rd 12 [(34, qb false), (33, .tup []), (32, .tup []), (31, .tup []), (30, .tup []), (29, .tup []), (28, .tup []), (27, .tup []), (26, .tup []), (25, .tup []), (24, .tup []), (23, .tup [])] [] (.thenN (.condF (by kernel_rfl) (.skip (.thenN (.pr [2, 5, 6, 7] [2, 6, 11] [] [(2, qp 2 0), (5, qp 11 0), (6, qp 6 0), (7, qj r2.1)] [(2, some (.cells [lj 0, li .u8 0, lj 0, lj 0, lj 0, ls be, lj 0, ls be, lj 0, ls be, lj 0, ls be])), (6, some (.cells [lj r1.1, li .u8 0, lj 0, lj 0, lj 0, ls be, lj 0, ls be, lj 0, ls be, lj 0, ls be])), (11, some (.cells (Reader.cells r2.2)))] ?_)))))
    exact F71_j3_ok n r1 r2


-- 30: vedette/thing.Read
def F30_e : (Thing × Int × Int) → PV × List Ob := fun r => (.tup [.agg (Thing.cells r.1), .one (li .i64 r.2.1), .one (li .i64 r.2.2)], [])
def F30 (n : Nat) (a0 : ByteArray) : Option (Thing × Int × Int) :=
  (F71 n a0).bind fun (r1 : (Delta × Int × Int)) =>
  if r1.2.2 != 0 then
    some ((Thing.mk 0 (Point.mk 0 0) (A4.mk (Field.mk 0 ByteArray.empty) (Field.mk 0 ByteArray.empty) (Field.mk 0 ByteArray.empty) (Field.mk 0 ByteArray.empty))), 0, r1.2.2)
  else
    if r1.1.Mask != 31 then
      some ((Thing.mk 0 (Point.mk 0 0) (A4.mk (Field.mk 0 ByteArray.empty) (Field.mk 0 ByteArray.empty) (Field.mk 0 ByteArray.empty) (Field.mk 0 ByteArray.empty))), 0, 11)
    else
      some ((Thing.mk r1.1.ID r1.1.At r1.1.F), r1.2.1, 0)
theorem F30_ok (n : Nat) (a0 : ByteArray) : ∀ r, F30 n a0 = some r → D 30 [.one (ls a0)] [] = some (F30_e r) := by
  refine fn_to (D := D) (n := n + 8) (nt := 32) (rs := pc30_r) (c := pc30_c22) (L := [(0, qs a0)]) (M := []) (k := 0) rfl rfl rfl rfl rfl rfl rfl ?_
  unfold F30
  refine Sim.sr 3 [(4, qj 0), (3, qj 0), (2, qp 2 0)] [(2, some (.cells [lj 0, lj 0, lj 0, lj 0, ls be, lj 0, ls be, lj 0, ls be, lj 0, ls be]))] (.st 1 [(9, qs a0)] [] (.cl 10 true [[]] 71 [Operand.tmp 9] none (fun r1 => .tup [.agg (Delta.cells r1.1), qj r1.2.1, qj r1.2.2]) [qs a0] (F71_ok n a0) (fun r1 => ?_)))
  refine SimI.rd 8 [(7, qj r1.2.2), (6, qj r1.2.1), (5, qp 5 0), (13, qj r1.2.2), (12, qj r1.2.1), (11, .agg (Delta.cells r1.1)), (8, .tup [.agg (Delta.cells r1.1), qj r1.2.1, qj r1.2.2])] [(5, some (.cells (Delta.cells r1.1))), (5, some (.cells [lj 0, li .u8 0, lj 0, lj 0, lj 0, ls be, lj 0, ls be, lj 0, ls be, lj 0, ls be]))] (.thenN (.seq (.block (.sr 3 [(14, qb (r1.2.2 != 0)), (16, qb (r1.2.2 != 0)), (15, qj r1.2.2)] [] (.cond (r1.2.2 != 0) (by kernel_rfl) ?_ ?_)))))
  · exact Sim.sr 5 [(4, qj r1.2.2), (3, qj 0), (18, qj r1.2.2), (17, .agg [lj 0, lj 0, lj 0, lj 0, ls be, lj 0, ls be, lj 0, ls be, lj 0, ls be])] [(2, some (.cells [lj 0, lj 0, lj 0, lj 0, ls be, lj 0, ls be, lj 0, ls be, lj 0, ls be]))] (.ret (.blockR (.thenR .fn)))
  · refine Sim.sr 4 [(19, qb (r1.1.Mask != 31)), (22, qb (r1.1.Mask != 31)), (21, .one (li .u8 r1.1.Mask)), (20, qp 5 1)] [] (.cond (r1.1.Mask != 31) (by kernel_rfl) ?_ ?_)
    · exact Sim.sr 4 [(4, qj 11), (3, qj 0), (23, .agg [lj 0, lj 0, lj 0, lj 0, ls be, lj 0, ls be, lj 0, ls be, lj 0, ls be])] [(2, some (.cells [lj 0, lj 0, lj 0, lj 0, ls be, lj 0, ls be, lj 0, ls be, lj 0, ls be]))] (.ret (.blockR (.thenR .fn)))
    · exact Sim.skip (.blockN (.thenN (.sr 11 [(4, qj 0), (3, qj r1.2.1), (31, qj r1.2.1), (30, .agg [lj r1.1.ID, lj r1.1.At.X, lj r1.1.At.Y, lj r1.1.F.a0.N, ls r1.1.F.a0.Text, lj r1.1.F.a1.N, ls r1.1.F.a1.Text, lj r1.1.F.a2.N, ls r1.1.F.a2.Text, lj r1.1.F.a3.N, ls r1.1.F.a3.Text]), (29, .agg (A4_Field.cells r1.1.F)), (28, qp 5 4), (27, .agg [lj r1.1.At.X, lj r1.1.At.Y]), (26, qp 5 2), (25, qj r1.1.ID), (24, qp 5 0)] [(2, some (.cells [lj r1.1.ID, lj r1.1.At.X, lj r1.1.At.Y, lj r1.1.F.a0.N, ls r1.1.F.a0.Text, lj r1.1.F.a1.N, ls r1.1.F.a1.Text, lj r1.1.F.a2.N, ls r1.1.F.a2.Text, lj r1.1.F.a3.N, ls r1.1.F.a3.Text]))] (.ret .fn))))


end Go.Proofs.Ytobeamaaifgllaa
