/-
  Functions of the program as functions of Lean. No condition.
-/
import Derived.Test.YtobeamaaifgllaaEventReadsE
namespace Go.Proofs.Ytobeamaaifgllaa
open Go Go.Rx
set_option maxRecDepth 100000
set_option linter.unusedVariables false
set_option linter.unusedSimpArgs false
set_option linter.unnecessarySimpa false
-- 67: vedette/geom.On
def F67_e : Bool → PV × List Ob := fun r => (.one (lb r), [])
def F67 (n : Nat) (a0 : Point) : Option Bool :=
  if decide ((0 : Int) ≤ a0.X) then
    if decide (a0.X < 64) then
      if decide ((0 : Int) ≤ a0.Y) then
        some (decide (a0.Y < 64))
      else
        some false
    else
      some false
  else
    some false
theorem F67_ok (n : Nat) (a0 : Point) : ∀ r, F67 n a0 = some r → D 67 [.agg [li .i64 a0.X, li .i64 a0.Y]] [] = some (F67_e r) := by
  refine fn_to (D := D) (n := n + 8) (nt := 21) (rs := pc67_r) (c := pc67_c5) (L := [(0, .agg [lj a0.X, lj a0.Y])]) (M := []) (k := 0) rfl rfl rfl rfl rfl rfl rfl ?_
  unfold F67
  refine Sim.sr 2 [(2, qb false), (1, qp 1 0)] [(1, some (.cells [lj a0.X, lj a0.Y]))] (.st 4 [(6, qb (decide ((0 : Int) ≤ a0.X))), (5, qb (decide ((0 : Int) ≤ a0.X))), (4, qj a0.X), (3, qp 1 0)] [] (.split 6 (decide ((0 : Int) ≤ a0.X)) (by kernel_rfl) ?_ ?_))
  · refine SimI.rn 5 [(11, qb (decide (a0.X < 64))), (10, qb (decide (a0.X < 64))), (9, qb (decide (a0.X < 64))), (8, qj a0.X), (7, qp 1 0)] [] (.split 11 (decide (a0.X < 64)) (by kernel_rfl) ?_ ?_)
    · refine SimI.rn 5 [(16, qb (decide ((0 : Int) ≤ a0.Y))), (15, qb (decide ((0 : Int) ≤ a0.Y))), (14, qb (decide ((0 : Int) ≤ a0.Y))), (13, qj a0.Y), (12, qp 1 1)] [] (.split 16 (decide ((0 : Int) ≤ a0.Y)) (by kernel_rfl) ?_ ?_)
      · exact SimI.rd 5 [(2, qb (decide (a0.Y < 64))), (20, qb (decide (a0.Y < 64))), (19, qb (decide (a0.Y < 64))), (18, qj a0.Y), (17, qp 1 1)] [] (.thenN (.ret .fn))
      · exact SimI.rd 5 [(2, qb false), (20, qb false), (19, .tup []), (18, .tup []), (17, .tup [])] [] (.thenN (.ret .fn))
    · exact SimI.rd 10 [(2, qb false), (20, qb false), (19, .tup []), (18, .tup []), (17, .tup []), (16, qb false), (15, qb false), (14, .tup []), (13, .tup []), (12, .tup [])] [] (.thenN (.ret .fn))
  · exact SimI.rd 15 [(2, qb false), (20, qb false), (19, .tup []), (18, .tup []), (17, .tup []), (16, qb false), (15, qb false), (14, .tup []), (13, .tup []), (12, .tup []), (11, qb false), (10, qb false), (9, .tup []), (8, .tup []), (7, .tup [])] [] (.thenN (.ret .fn))


-- 70: vedette/fields.IsField
def F70_e : Bool → PV × List Ob := fun r => (.one (lb r), [])
def F70 (n : Nat) (a0 : Field) : Option Bool :=
  if a0.N == 0 then
    some (decide ((a0.Text.size : Int) ≤ 12))
  else
    if a0.Text.toList == ByteArray.empty.toList then
      some (decide ((a0.Text.size : Int) ≤ 12))
    else
      some false
theorem F70_ok (n : Nat) (a0 : Field) : ∀ r, F70 n a0 = some r → D 70 [.agg [li .i64 a0.N, ls a0.Text]] [] = some (F70_e r) := by
  refine fn_to (D := D) (n := n + 8) (nt := 17) (rs := pc70_r) (c := pc70_c5) (L := [(0, .agg [lj a0.N, ls a0.Text])]) (M := []) (k := 0) rfl rfl rfl rfl rfl rfl rfl ?_
  unfold F70
  refine Sim.sr 2 [(2, qb false), (1, qp 1 0)] [(1, some (.cells [lj a0.N, ls a0.Text]))] (.st 4 [(6, qb (a0.N == 0)), (5, qb (a0.N == 0)), (4, qj a0.N), (3, qp 1 0)] [] (.split 6 (a0.N == 0) (by kernel_rfl) ?_ ?_))
  · exact SimI.rd 11 [(2, qb (decide ((a0.Text.size : Int) ≤ 12))), (16, qb (decide ((a0.Text.size : Int) ≤ 12))), (15, qb (decide ((a0.Text.size : Int) ≤ 12))), (14, qj (a0.Text.size : Int)), (13, qs a0.Text), (12, qp 1 1), (11, qb true), (10, qb true), (9, .tup []), (8, .tup []), (7, .tup [])] [] (.thenN (.ret .fn))
  · refine SimI.rn 5 [(11, qb (a0.Text.toList == be.toList)), (10, qb (a0.Text.toList == be.toList)), (9, qb (a0.Text.toList == be.toList)), (8, qs a0.Text), (7, qp 1 1)] [] (.split 11 (a0.Text.toList == be.toList) (by kernel_rfl) ?_ ?_)
    · exact SimI.rd 6 [(2, qb (decide ((a0.Text.size : Int) ≤ 12))), (16, qb (decide ((a0.Text.size : Int) ≤ 12))), (15, qb (decide ((a0.Text.size : Int) ≤ 12))), (14, qj (a0.Text.size : Int)), (13, qs a0.Text), (12, qp 1 1)] [] (.thenN (.ret .fn))
    · exact SimI.rd 6 [(2, qb false), (16, qb false), (15, .tup []), (14, .tup []), (13, .tup []), (12, .tup [])] [] (.thenN (.ret .fn))


-- 69: vedette/thing.Is$1
def F69_e : Bool → PV × List Ob := fun r => (.one (lb r), [])
def F69 (n : Nat) (a0 : Field) : Option Bool :=
  (F70 n a0).bind fun (r1 : Bool) =>
  some (!(r1))
theorem F69_ok (n : Nat) (a0 : Field) : ∀ r, F69 n a0 = some r → D 69 [.agg [li .i64 a0.N, ls a0.Text]] [] = some (F69_e r) := by
  refine fn_to (D := D) (n := n + 8) (nt := 6) (rs := pc69_r) (c := pc69_c5) (L := [(0, .agg [lj a0.N, ls a0.Text])]) (M := []) (k := 0) rfl rfl rfl rfl rfl rfl rfl ?_
  unfold F69
  refine Sim.sr 2 [(2, qb false), (1, qp 1 0)] [(1, some (.cells [lj a0.N, ls a0.Text]))] (.st 1 [(3, .agg [lj a0.N, ls a0.Text])] [] (.cl 4 true [[]] 70 [Operand.tmp 3] none (fun r1 => qb r1) [.agg [lj a0.N, ls a0.Text]] (F70_ok n a0) (fun r1 => ?_)))
  exact SimI.rd 2 [(2, qb (!(r1))), (5, qb (!(r1)))] [] (.thenN (.ret .fn))


-- 103: slices.IndexFunc[[]vedette/api.Field,vedette/api.Field]
def F103s0_e (a0 : (List Field)) : Int → PV × List Ob := fun r => (.one (li .i64 r), [])
def F103s0_l4 (n : Nat) (a0 : (List Field)) : Nat → Int → Option Int
  | 0, _ => none
  | m + 1, i3 =>
    if decide (i3 < ((a0).length : Int)) then
      (ix a0 i3).bind fun (x5 : Field) =>
      (F69 n x5).bind fun (r6 : Bool) =>
      if r6 then
        some i3
      else
        (F103s0_l4 n a0 m) (IntKind.wrap .i64 (i3 + 1))
    else
      some (-1)
theorem F103s0_l4_ok (n : Nat) (a0 : (List Field)) : ∀ (m : Nat) (i3 : Int), SimL Try.prog D (n + 8) m pc103_c20 [(0, .one (vw Field.cod a0)), (1, .one (.val (.func (.func 69) #[] #[]))), (7, qj ((a0).length : Int)), (8, qj i3)] [] (F103s0_l4 n a0 m i3) (QB 0 (QT Try.prog D (n + 8) pc103_c26 (QF false pc103_r 0 (F103s0_e a0)))) := by
  intro m_l4
  induction m_l4 with
  | zero => intro i3; exact SimL.zero'  rfl
  | succ m_l4 ih_l4 =>
    intro i3
    refine SimL.succ ?_
    unfold F103s0_l4
    refine Sim.seq (.rg [(0, .one (vw Field.cod a0)), (1, .one (.val (.func (.func 69) #[] #[]))), (7, qj ((a0).length : Int)), (8, qj i3)] [] (.rd 1 [(9, qb (decide (i3 < ((a0).length : Int))))] [] (.thenN (.seq (.cond (decide (i3 < ((a0).length : Int))) (by kernel_rfl) ?_ ?_)))))
    · refine Sim.skip (.thenN (.seq (.block (.sr 2 [(5, qj i3), (10, qj i3)] [] (.st 3 [(13, qj i3), (12, .one (vw Field.cod a0)), (11, .one (.val (.func (.func 69) #[] #[])))] [] (.bind (og := ix a0 i3) ⟨some 14, POp.iaddrS 2 (Operand.tmp 12) (Operand.tmp 13), none, []⟩ (fun x5 => [(14, .one (.eptr (Field.cod.enc x5) 0))]) (fun x5 => []) (by kernel_rfl) (fun x5 hr => pOp_eff (by kernel_rfl) (by kernel_rfl) (eff_idx (c := Field.cod) (l := a0) (k := .i64) (n := i3) (by kernel_rfl) (by kernel_rfl) (by kernel_rfl) hr)) (fun x5 => ?_)))))))
      refine SimI.rn 1 [(15, .agg [lj x5.N, ls x5.Text])] [] (.bind (og := F69 n x5) ⟨some 16, POp.callv true [[]] (Operand.tmp 11) [Operand.tmp 15], none, []⟩ (fun r6 => [(16, qb r6)]) (fun r6 => []) (by kernel_rfl) (fun r6 hr => pOp_eff (by kernel_rfl) (by kernel_rfl) (eff_callvv (by kernel_rfl) (ARGS := [.agg [lj x5.N, ls x5.Text]]) (by kernel_rfl) (args_clean (by kernel_rfl) args_nil) (F69_ok n x5 r6 hr) (by kernel_rfl))) (fun r6 => ?_))
      refine SimI.dn (.thenN (.cond r6 (by kernel_rfl) ?_ ?_))
      · exact Sim.sr 2 [(4, qj i3), (17, qj i3)] [] (.ret (.blockR (.thenR (.loopR (.blockR (.thenR .fn))))))
      · refine Sim.skip (.blockN (.thenN (.region0 (.rd 2 [(8, qj (IntKind.wrap .i64 (i3 + 1))), (18, qj (IntKind.wrap .i64 (i3 + 1)))] [] (.loopN (.pr [0, 1, 7, 8] [] [] [(0, .one (vw Field.cod a0)), (1, .one (.val (.func (.func 69) #[] #[]))), (7, qj ((a0).length : Int)), (8, qj (IntKind.wrap .i64 (i3 + 1)))] [] ?_))))))
        exact ih_l4 (IntKind.wrap .i64 (i3 + 1))
    · exact Sim.exit (.thenX (.loopX (.blockX (.thenN (.sr 1 [(4, qj (-1))] [] (.ret .fn))))))

def F103s0 (n : Nat) (a0 : (List Field)) : Option Int :=
  F103s0_l4 n a0 (n + 8) 0
theorem F103s0_ok (n : Nat) (a0 : (List Field)) : ∀ r, F103s0 n a0 = some r → D 103 [.one (vw Field.cod a0), .one (.val (.func (.func 69) #[] #[]))] [] = some ((F103s0_e a0) r) := by
  refine fn_to (D := D) (n := n + 8) (nt := 19) (rs := pc103_r) (c := pc103_c28) (L := [(0, .one (vw Field.cod a0)), (1, .one (.val (.func (.func 69) #[] #[])))]) (M := []) (k := 0) rfl rfl rfl rfl rfl rfl rfl ?_
  unfold F103s0
  refine Sim.sr 1 [(4, qj 0)] [] (.seq (.sr 3 [(8, qj 0), (7, qj ((a0).length : Int)), (6, .one (vw Field.cod a0))] [] (.block (.loop (.pr [0, 1, 7, 8] [] [] [(0, .one (vw Field.cod a0)), (1, .one (.val (.func (.func 69) #[] #[]))), (7, qj ((a0).length : Int)), (8, qj 0)] [] ?_)))))
  exact F103s0_l4_ok n a0 (n + 8) 0


-- 68: slices.ContainsFunc[[]vedette/api.Field,vedette/api.Field]
def F68s0_e (a0 : (List Field)) : Bool → PV × List Ob := fun r => (.one (lb r), [])
def F68s0 (n : Nat) (a0 : (List Field)) : Option Bool :=
  (F103s0 n a0).bind fun (r1 : Int) =>
  some (decide ((0 : Int) ≤ r1))
theorem F68s0_ok (n : Nat) (a0 : (List Field)) : ∀ r, F68s0 n a0 = some r → D 68 [.one (vw Field.cod a0), .one (.val (.func (.func 69) #[] #[]))] [] = some ((F68s0_e a0) r) := by
  refine fn_to (D := D) (n := n + 8) (nt := 9) (rs := pc68_r) (c := pc68_c5) (L := [(0, .one (vw Field.cod a0)), (1, .one (.val (.func (.func 69) #[] #[])))]) (M := []) (k := 0) rfl rfl rfl rfl rfl rfl rfl ?_
  unfold F68s0
  refine Sim.sr 1 [(4, qb false)] [] (.st 2 [(6, .one (.val (.func (.func 69) #[] #[]))), (5, .one (vw Field.cod a0))] [] (.bind (og := F103s0 n a0) ⟨some 7, POp.gcall false false [300000, 300001, 300002, 300003, 300004, 300005, 300006, 300007] [[(0, 2)], []] 103 [Operand.tmp 5, Operand.tmp 6], none, []⟩ (fun r1 => [(7, qj r1)]) (fun r1 => []) (by kernel_rfl) (fun r1 hr => pOp_eff (by kernel_rfl) (by kernel_rfl) (eff_gcall (ks := []) (rks := []) (new := []) (ARGS := [.one (vw Field.cod a0), .one (.val (.func (.func 69) #[] #[]))]) (args1 := [.one (vw Field.cod a0), .one (.val (.func (.func 69) #[] #[]))]) (args2 := [.one (vw Field.cod a0), .one (.val (.func (.func 69) #[] #[]))]) (os := []) (os' := []) (os1 := []) (res := qj r1) (res1 := qj r1) (r := qj r1) (N := []) (by kernel_rfl) (readA_ow (readA_keep (by kernel_rfl) (readA_keep (by kernel_rfl) (readA_nil)))) (by kernel_rfl) (by kernel_rfl) (by kernel_rfl) (by kernel_rfl) (F103s0_ok n a0 r1 hr) (by kernel_rfl) (by kernel_rfl) (by kernel_rfl) rfl (by kernel_rfl) (by kernel_rfl) (by kernel_rfl))) (fun r1 => ?_)))
  exact SimI.rd 2 [(4, qb (decide ((0 : Int) ≤ r1))), (8, qb (decide ((0 : Int) ≤ r1)))] [] (.thenN (.ret .fn))


-- 24: vedette/thing.Is
def F24_e : Bool → PV × List Ob := fun r => (.one (lb r), [])
def F24 (n : Nat) (a0 : Thing) : Option Bool :=
  if decide ((0 : Int) ≤ a0.ID) then
    if decide (a0.ID ≤ 1000000) then
      (F67 n a0.At).bind fun (r1 : Bool) =>
      if r1 then
        (F68s0 n [a0.F.a0, a0.F.a1, a0.F.a2, a0.F.a3]).bind fun (r2 : Bool) =>
        some (!(r2))
      else
        some false
    else
      some false
  else
    some false
theorem F24_ok (n : Nat) (a0 : Thing) : ∀ r, F24 n a0 = some r → D 24 [.agg (Thing.cells a0)] [] = some (F24_e r) := by
  refine fn_to (D := D) (n := n + 8) (nt := 22) (rs := pc24_r) (c := pc24_c5) (L := [(0, .agg (Thing.cells a0))]) (M := []) (k := 0) rfl rfl rfl rfl rfl rfl rfl ?_
  unfold F24
  refine Sim.sr 2 [(2, qb false), (1, qp 1 0)] [(1, some (.cells (Thing.cells a0)))] (.st 4 [(6, qb (decide ((0 : Int) ≤ a0.ID))), (5, qb (decide ((0 : Int) ≤ a0.ID))), (4, qj a0.ID), (3, qp 1 0)] [] (.split 6 (decide ((0 : Int) ≤ a0.ID)) (by kernel_rfl) ?_ ?_))
  · refine SimI.rn 5 [(11, qb (decide (a0.ID ≤ 1000000))), (10, qb (decide (a0.ID ≤ 1000000))), (9, qb (decide (a0.ID ≤ 1000000))), (8, qj a0.ID), (7, qp 1 0)] [] (.split 11 (decide (a0.ID ≤ 1000000)) (by kernel_rfl) ?_ ?_)
    · refine SimI.rn 2 [(13, .agg [lj a0.At.X, lj a0.At.Y]), (12, qp 1 1)] [] (.cl 14 true [[]] 67 [Operand.tmp 13] (some (11, true)) (fun r1 => qb r1) [.agg [lj a0.At.X, lj a0.At.Y]] (F67_ok n a0.At) (fun r1 => ?_))
      refine SimI.rn 2 [(16, qb r1), (15, qb r1)] [] (.split 16 r1 (by kernel_rfl) ?_ ?_)
      · refine SimI.rn 2 [(18, .one (.csl 1 2 3 4)), (17, qp 1 3)] [] (.bind (og := F68s0 n [a0.F.a0, a0.F.a1, a0.F.a2, a0.F.a3]) ⟨some 19, POp.gcall false false [1, 300000, 300001, 300002, 300003, 300004, 300005, 300006, 300007] [[(0, 2)], []] 68 [Operand.tmp 18, Operand.func 69], some (16, true), []⟩ (fun r2 => [(19, qb r2)]) (fun r2 => []) (by kernel_rfl) (fun r2 hr => pOp_eff (by kernel_rfl) (by kernel_rfl) (eff_gcall (ks := []) (rks := [1]) (new := []) (ARGS := [.one (.csl 1 2 3 4), .one (.val (.func (.func 69) #[] #[]))]) (args1 := [.one (vw Field.cod [a0.F.a0, a0.F.a1, a0.F.a2, a0.F.a3]), .one (.val (.func (.func 69) #[] #[]))]) (args2 := [.one (vw Field.cod [a0.F.a0, a0.F.a1, a0.F.a2, a0.F.a3]), .one (.val (.func (.func 69) #[] #[]))]) (os := []) (os' := []) (os1 := []) (res := qb r2) (res1 := qb r2) (r := qb r2) (N := []) (by kernel_rfl) (readA_ow (readA_csl (c := Field.cod) (k := 1) (off := 3) (cs := (Thing.cells a0)) (l := [a0.F.a0, a0.F.a1, a0.F.a2, a0.F.a3]) (by kernel_rfl) (by kernel_rfl) (by kernel_rfl) (by kernel_rfl) (readA_keep (by kernel_rfl) (readA_nil)))) (by kernel_rfl) (by kernel_rfl) (by kernel_rfl) (by kernel_rfl) (F68s0_ok n [a0.F.a0, a0.F.a1, a0.F.a2, a0.F.a3] r2 hr) (by kernel_rfl) (by kernel_rfl) (by kernel_rfl) rfl (by kernel_rfl) (by kernel_rfl) (by kernel_rfl))) (fun r2 => ?_))
        exact SimI.rd 3 [(2, qb (!(r2))), (21, qb (!(r2))), (20, qb (!(r2)))] [] (.thenN (.ret .fn))
      · exact SimI.rd 6 [(2, qb false), (21, qb false), (20, .tup []), (19, .tup []), (18, .tup []), (17, .tup [])] [] (.thenN (.ret .fn))
    · exact SimI.rd 11 [(2, qb false), (21, qb false), (20, .tup []), (19, .tup []), (18, .tup []), (17, .tup []), (16, qb false), (15, qb false), (14, .tup []), (13, .tup []), (12, .tup [])] [] (.thenN (.ret .fn))
  · exact SimI.rd 16 [(2, qb false), (21, qb false), (20, .tup []), (19, .tup []), (18, .tup []), (17, .tup []), (16, qb false), (15, qb false), (14, .tup []), (13, .tup []), (12, .tup []), (11, qb false), (10, qb false), (9, .tup []), (8, .tup []), (7, .tup [])] [] (.thenN (.ret .fn))


-- 99: vedette/fields.has
def F99_e : Bool → PV × List Ob := fun r => (.one (lb r), [])
def F99 (n : Nat) (a0 : Int) (a1 : Int) : Option Bool :=
  if ¬ (IntKind.wrap .i64 (a1 + 1) < 0) then
    some ((bitsI .and .u8 (shrI .u8 a0 (IntKind.wrap .i64 (a1 + 1))) 1) == 1)
  else none
theorem F99_ok (n : Nat) (a0 : Int) (a1 : Int) : ∀ r, F99 n a0 a1 = some r → D 99 [.one (li .u8 a0), .one (li .i64 a1)] [] = some (F99_e r) := by
  refine fn_to (D := D) (n := n + 8) (nt := 11) (rs := pc99_r) (c := pc99_c5) (L := [(0, .one (li .u8 a0)), (1, qj a1)]) (M := []) (k := 0) rfl rfl rfl rfl rfl rfl rfl ?_
  unfold F99
  exact Sim.sr 1 [(4, qb false)] [] (.st 3 [(7, qj (IntKind.wrap .i64 (a1 + 1))), (6, qj a1), (5, .one (li .u8 a0))] [] (.guard (c := ¬ (IntKind.wrap .i64 (a1 + 1) < 0)) ⟨some 8, POp.prim (Prim.bin BinOp.shr 5 false false) [Operand.tmp 5, Operand.tmp 7], none, []⟩ [(8, .one (li .u8 (shrI .u8 a0 (IntKind.wrap .i64 (a1 + 1)))))] [] (by kernel_rfl) (fun hc => pOp_eff (by kernel_rfl) (by kernel_rfl) (eff_prim (by kernel_rfl) (pr_shr _ _ _ .u8 .i64 a0 (IntKind.wrap .i64 (a1 + 1)) hc))) (.rd 3 [(4, qb ((bitsI .and .u8 (shrI .u8 a0 (IntKind.wrap .i64 (a1 + 1))) 1) == 1)), (10, qb ((bitsI .and .u8 (shrI .u8 a0 (IntKind.wrap .i64 (a1 + 1))) 1) == 1)), (9, .one (li .u8 (bitsI .and .u8 (shrI .u8 a0 (IntKind.wrap .i64 (a1 + 1))) 1)))] [] (.thenN (.ret .fn)))))


-- 77: vedette/fields.IsDelta
def F77_e : Bool → PV × List Ob := fun r => (.one (lb r), [])
def F77_u15 (n : Nat) : Option Bool :=
    some true
theorem F77_u15_ok (n : Nat) (a0 : Delta) : SimL Try.prog D (n + 8) (n + 4) pc77_c34 [(1, qp 1 0), (40, .agg (A4_Field.cells a0.F)), (41, qj 4)] [(1, some (.cells (Delta.cells a0)))] (F77_u15 n) (QB 0 (QT Try.prog D (n + 8) pc77_c40 (QF false pc77_r 0 F77_e))) := by
    unfold F77_u15
    exact SimL.succ (.seq (.rg [(1, qp 1 0), (40, .agg (A4_Field.cells a0.F)), (41, qj 4)] [(1, some (.cells (Delta.cells a0)))] (.rd 1 [(42, qb false)] [] (.thenN (.seq (.condF (by kernel_rfl) (.exit (.thenX (.loopX (.blockX (.thenN (.sr 1 [(2, qb true)] [] (.ret .fn)))))))))))))

def F77_u12 (n : Nat) (a0 : Delta) : Option Bool :=
    (F70 n a0.F.a3).bind fun (r13 : Bool) =>
    if !(r13) then
      some false
    else
      (F99 n a0.Mask 3).bind fun (r14 : Bool) =>
      if !(r14) then
        if !(Field.eqb a0.F.a3 (Field.mk 0 ByteArray.empty)) then
          some false
        else
          F77_u15 n
      else
        F77_u15 n
theorem F77_u12_ok (n : Nat) (a0 : Delta) : SimL Try.prog D (n + 8) (n + 5) pc77_c34 [(1, qp 1 0), (40, .agg (A4_Field.cells a0.F)), (41, qj 3)] [(1, some (.cells (Delta.cells a0)))] (F77_u12 n a0) (QB 0 (QT Try.prog D (n + 8) pc77_c40 (QF false pc77_r 0 F77_e))) := by
    unfold F77_u12
    refine SimL.succ (.seq (.rg [(1, qp 1 0), (40, .agg (A4_Field.cells a0.F)), (41, qj 3)] [(1, some (.cells (Delta.cells a0)))] (.rd 1 [(42, qb true)] [] (.thenN (.seq (.condT (by kernel_rfl) (.skip (.thenN (.seq (.block (.sr 5 [(3, qj 3), (4, qp 4 0), (44, .agg [lj a0.F.a3.N, ls a0.F.a3.Text]), (43, qj 3)] [(4, some (.cells [lj a0.F.a3.N, ls a0.F.a3.Text])), (4, some (.cells [lj 0, ls be]))] (.st 1 [(45, .agg [lj a0.F.a3.N, ls a0.F.a3.Text])] [] (.cl 46 true [[]] 70 [Operand.tmp 45] none (fun r13 => qb r13) [.agg [lj a0.F.a3.N, ls a0.F.a3.Text]] (F70_ok n a0.F.a3) (fun r13 => ?_))))))))))))))
    refine SimI.rn 2 [(48, qb (!(r13))), (47, qb (!(r13)))] [] (.split 48 (!(r13)) (by kernel_rfl) ?_ ?_)
    · exact SimI.rd 11 [(59, qb true), (58, .tup []), (57, .tup []), (56, .tup []), (55, .tup []), (54, .tup []), (53, .tup []), (52, .tup []), (51, .tup []), (50, .tup []), (49, .tup [])] [] (.thenN (.condT (by kernel_rfl) (.sr 1 [(2, qb false)] [] (.ret (.blockR (.thenR (.loopR (.blockR (.thenR .fn)))))))))
    · refine SimI.rn 3 [(51, qj 3), (50, .one (li .u8 a0.Mask)), (49, qp 1 1)] [] (.cl 52 true [[], []] 99 [Operand.tmp 50, Operand.tmp 51] (some (48, false)) (fun r14 => qb r14) [.one (li .u8 a0.Mask), qj 3] (F99_ok n a0.Mask 3) (fun r14 => ?_))
      refine SimI.rn 2 [(54, qb (!(r14))), (53, qb (!(r14)))] [] (.split 54 (!(r14)) (by kernel_rfl) ?_ ?_)
      · refine SimI.rn 2 [(56, .agg [lj 0, ls be]), (55, .agg [lj a0.F.a3.N, ls a0.F.a3.Text])] [] (.step ⟨some 57, POp.prim (Prim.bin BinOp.neq 25 false false) [Operand.tmp 55, Operand.tmp 56], some (54, true), []⟩ [(57, qb (!(Field.eqb a0.F.a3 (Field.mk 0 be))))] [] (by kernel_rfl) (pOp_eff (by kernel_rfl) (by kernel_rfl) (eff_prim (by kernel_rfl) (Field_eqn a0.F.a3 (Field.mk 0 be) _ _))) (.rd 2 [(59, qb (!(Field.eqb a0.F.a3 (Field.mk 0 be)))), (58, qb (!(Field.eqb a0.F.a3 (Field.mk 0 be))))] [] (.thenN (.cond (!(Field.eqb a0.F.a3 (Field.mk 0 be))) (by kernel_rfl) ?_ ?_))))
        · exact Sim.sr 1 [(2, qb false)] [] (.ret (.blockR (.thenR (.loopR (.blockR (.thenR .fn))))))
        · refine Sim.skip (.blockN (.thenN (.region0 (.rd 2 [(41, qj 4), (60, qj 4)] [] (.loopN (.pr [1, 40, 41] [1, 4] [] [(1, qp 1 0), (40, .agg (A4_Field.cells a0.F)), (41, qj 4)] [(1, some (.cells (Delta.cells a0)))] ?_))))))
          exact F77_u15_ok n a0
      · refine SimI.rd 5 [(59, qb false), (58, qb false), (57, .tup []), (56, .tup []), (55, .tup [])] [] (.thenN (.condF (by kernel_rfl) (.skip (.blockN (.thenN (.region0 (.rd 2 [(41, qj 4), (60, qj 4)] [] (.loopN (.pr [1, 40, 41] [1, 4] [] [(1, qp 1 0), (40, .agg (A4_Field.cells a0.F)), (41, qj 4)] [(1, some (.cells (Delta.cells a0)))] ?_)))))))))
        exact F77_u15_ok n a0

def F77_u9 (n : Nat) (a0 : Delta) : Option Bool :=
    (F70 n a0.F.a2).bind fun (r10 : Bool) =>
    if !(r10) then
      some false
    else
      (F99 n a0.Mask 2).bind fun (r11 : Bool) =>
      if !(r11) then
        if !(Field.eqb a0.F.a2 (Field.mk 0 ByteArray.empty)) then
          some false
        else
          F77_u12 n a0
      else
        F77_u12 n a0
theorem F77_u9_ok (n : Nat) (a0 : Delta) : SimL Try.prog D (n + 8) (n + 6) pc77_c34 [(1, qp 1 0), (40, .agg (A4_Field.cells a0.F)), (41, qj 2)] [(1, some (.cells (Delta.cells a0)))] (F77_u9 n a0) (QB 0 (QT Try.prog D (n + 8) pc77_c40 (QF false pc77_r 0 F77_e))) := by
    unfold F77_u9
    refine SimL.succ (.seq (.rg [(1, qp 1 0), (40, .agg (A4_Field.cells a0.F)), (41, qj 2)] [(1, some (.cells (Delta.cells a0)))] (.rd 1 [(42, qb true)] [] (.thenN (.seq (.condT (by kernel_rfl) (.skip (.thenN (.seq (.block (.sr 5 [(3, qj 2), (4, qp 4 0), (44, .agg [lj a0.F.a2.N, ls a0.F.a2.Text]), (43, qj 2)] [(4, some (.cells [lj a0.F.a2.N, ls a0.F.a2.Text])), (4, some (.cells [lj 0, ls be]))] (.st 1 [(45, .agg [lj a0.F.a2.N, ls a0.F.a2.Text])] [] (.cl 46 true [[]] 70 [Operand.tmp 45] none (fun r10 => qb r10) [.agg [lj a0.F.a2.N, ls a0.F.a2.Text]] (F70_ok n a0.F.a2) (fun r10 => ?_))))))))))))))
    refine SimI.rn 2 [(48, qb (!(r10))), (47, qb (!(r10)))] [] (.split 48 (!(r10)) (by kernel_rfl) ?_ ?_)
    · exact SimI.rd 11 [(59, qb true), (58, .tup []), (57, .tup []), (56, .tup []), (55, .tup []), (54, .tup []), (53, .tup []), (52, .tup []), (51, .tup []), (50, .tup []), (49, .tup [])] [] (.thenN (.condT (by kernel_rfl) (.sr 1 [(2, qb false)] [] (.ret (.blockR (.thenR (.loopR (.blockR (.thenR .fn)))))))))
    · refine SimI.rn 3 [(51, qj 2), (50, .one (li .u8 a0.Mask)), (49, qp 1 1)] [] (.cl 52 true [[], []] 99 [Operand.tmp 50, Operand.tmp 51] (some (48, false)) (fun r11 => qb r11) [.one (li .u8 a0.Mask), qj 2] (F99_ok n a0.Mask 2) (fun r11 => ?_))
      refine SimI.rn 2 [(54, qb (!(r11))), (53, qb (!(r11)))] [] (.split 54 (!(r11)) (by kernel_rfl) ?_ ?_)
      · refine SimI.rn 2 [(56, .agg [lj 0, ls be]), (55, .agg [lj a0.F.a2.N, ls a0.F.a2.Text])] [] (.step ⟨some 57, POp.prim (Prim.bin BinOp.neq 25 false false) [Operand.tmp 55, Operand.tmp 56], some (54, true), []⟩ [(57, qb (!(Field.eqb a0.F.a2 (Field.mk 0 be))))] [] (by kernel_rfl) (pOp_eff (by kernel_rfl) (by kernel_rfl) (eff_prim (by kernel_rfl) (Field_eqn a0.F.a2 (Field.mk 0 be) _ _))) (.rd 2 [(59, qb (!(Field.eqb a0.F.a2 (Field.mk 0 be)))), (58, qb (!(Field.eqb a0.F.a2 (Field.mk 0 be))))] [] (.thenN (.cond (!(Field.eqb a0.F.a2 (Field.mk 0 be))) (by kernel_rfl) ?_ ?_))))
        · exact Sim.sr 1 [(2, qb false)] [] (.ret (.blockR (.thenR (.loopR (.blockR (.thenR .fn))))))
        · refine Sim.skip (.blockN (.thenN (.region0 (.rd 2 [(41, qj 3), (60, qj 3)] [] (.loopN (.pr [1, 40, 41] [1, 4] [] [(1, qp 1 0), (40, .agg (A4_Field.cells a0.F)), (41, qj 3)] [(1, some (.cells (Delta.cells a0)))] ?_))))))
          exact F77_u12_ok n a0
      · refine SimI.rd 5 [(59, qb false), (58, qb false), (57, .tup []), (56, .tup []), (55, .tup [])] [] (.thenN (.condF (by kernel_rfl) (.skip (.blockN (.thenN (.region0 (.rd 2 [(41, qj 3), (60, qj 3)] [] (.loopN (.pr [1, 40, 41] [1, 4] [] [(1, qp 1 0), (40, .agg (A4_Field.cells a0.F)), (41, qj 3)] [(1, some (.cells (Delta.cells a0)))] ?_)))))))))
        exact F77_u12_ok n a0

def F77_u6 (n : Nat) (a0 : Delta) : Option Bool :=
    (F70 n a0.F.a1).bind fun (r7 : Bool) =>
    if !(r7) then
      some false
    else
      (F99 n a0.Mask 1).bind fun (r8 : Bool) =>
      if !(r8) then
        if !(Field.eqb a0.F.a1 (Field.mk 0 ByteArray.empty)) then
          some false
        else
          F77_u9 n a0
      else
        F77_u9 n a0
theorem F77_u6_ok (n : Nat) (a0 : Delta) : SimL Try.prog D (n + 8) (n + 7) pc77_c34 [(1, qp 1 0), (40, .agg (A4_Field.cells a0.F)), (41, qj 1)] [(1, some (.cells (Delta.cells a0)))] (F77_u6 n a0) (QB 0 (QT Try.prog D (n + 8) pc77_c40 (QF false pc77_r 0 F77_e))) := by
    unfold F77_u6
    refine SimL.succ (.seq (.rg [(1, qp 1 0), (40, .agg (A4_Field.cells a0.F)), (41, qj 1)] [(1, some (.cells (Delta.cells a0)))] (.rd 1 [(42, qb true)] [] (.thenN (.seq (.condT (by kernel_rfl) (.skip (.thenN (.seq (.block (.sr 5 [(3, qj 1), (4, qp 4 0), (44, .agg [lj a0.F.a1.N, ls a0.F.a1.Text]), (43, qj 1)] [(4, some (.cells [lj a0.F.a1.N, ls a0.F.a1.Text])), (4, some (.cells [lj 0, ls be]))] (.st 1 [(45, .agg [lj a0.F.a1.N, ls a0.F.a1.Text])] [] (.cl 46 true [[]] 70 [Operand.tmp 45] none (fun r7 => qb r7) [.agg [lj a0.F.a1.N, ls a0.F.a1.Text]] (F70_ok n a0.F.a1) (fun r7 => ?_))))))))))))))
    refine SimI.rn 2 [(48, qb (!(r7))), (47, qb (!(r7)))] [] (.split 48 (!(r7)) (by kernel_rfl) ?_ ?_)
    · exact SimI.rd 11 [(59, qb true), (58, .tup []), (57, .tup []), (56, .tup []), (55, .tup []), (54, .tup []), (53, .tup []), (52, .tup []), (51, .tup []), (50, .tup []), (49, .tup [])] [] (.thenN (.condT (by kernel_rfl) (.sr 1 [(2, qb false)] [] (.ret (.blockR (.thenR (.loopR (.blockR (.thenR .fn)))))))))
    · refine SimI.rn 3 [(51, qj 1), (50, .one (li .u8 a0.Mask)), (49, qp 1 1)] [] (.cl 52 true [[], []] 99 [Operand.tmp 50, Operand.tmp 51] (some (48, false)) (fun r8 => qb r8) [.one (li .u8 a0.Mask), qj 1] (F99_ok n a0.Mask 1) (fun r8 => ?_))
      refine SimI.rn 2 [(54, qb (!(r8))), (53, qb (!(r8)))] [] (.split 54 (!(r8)) (by kernel_rfl) ?_ ?_)
      · refine SimI.rn 2 [(56, .agg [lj 0, ls be]), (55, .agg [lj a0.F.a1.N, ls a0.F.a1.Text])] [] (.step ⟨some 57, POp.prim (Prim.bin BinOp.neq 25 false false) [Operand.tmp 55, Operand.tmp 56], some (54, true), []⟩ [(57, qb (!(Field.eqb a0.F.a1 (Field.mk 0 be))))] [] (by kernel_rfl) (pOp_eff (by kernel_rfl) (by kernel_rfl) (eff_prim (by kernel_rfl) (Field_eqn a0.F.a1 (Field.mk 0 be) _ _))) (.rd 2 [(59, qb (!(Field.eqb a0.F.a1 (Field.mk 0 be)))), (58, qb (!(Field.eqb a0.F.a1 (Field.mk 0 be))))] [] (.thenN (.cond (!(Field.eqb a0.F.a1 (Field.mk 0 be))) (by kernel_rfl) ?_ ?_))))
        · exact Sim.sr 1 [(2, qb false)] [] (.ret (.blockR (.thenR (.loopR (.blockR (.thenR .fn))))))
        · refine Sim.skip (.blockN (.thenN (.region0 (.rd 2 [(41, qj 2), (60, qj 2)] [] (.loopN (.pr [1, 40, 41] [1, 4] [] [(1, qp 1 0), (40, .agg (A4_Field.cells a0.F)), (41, qj 2)] [(1, some (.cells (Delta.cells a0)))] ?_))))))
          exact F77_u9_ok n a0
      · refine SimI.rd 5 [(59, qb false), (58, qb false), (57, .tup []), (56, .tup []), (55, .tup [])] [] (.thenN (.condF (by kernel_rfl) (.skip (.blockN (.thenN (.region0 (.rd 2 [(41, qj 2), (60, qj 2)] [] (.loopN (.pr [1, 40, 41] [1, 4] [] [(1, qp 1 0), (40, .agg (A4_Field.cells a0.F)), (41, qj 2)] [(1, some (.cells (Delta.cells a0)))] ?_)))))))))
        exact F77_u9_ok n a0

def F77_j3 (n : Nat) (a0 : Delta) : Option Bool :=
    (F70 n a0.F.a0).bind fun (r4 : Bool) =>
    if !(r4) then
      some false
    else
      (F99 n a0.Mask 0).bind fun (r5 : Bool) =>
      if !(r5) then
        if !(Field.eqb a0.F.a0 (Field.mk 0 ByteArray.empty)) then
          some false
        else
          F77_u6 n a0
      else
        F77_u6 n a0
theorem F77_j3_ok (n : Nat) (a0 : Delta) : Sim Try.prog D (n + 8) pc77_c41 [(1, qp 1 0)] [(1, some (.cells (Delta.cells a0)))] (F77_j3 n a0) (QF false pc77_r 0 F77_e) := by
    unfold F77_j3
    refine Sim.seq (.seq (.rg [(1, qp 1 0)] [(1, some (.cells (Delta.cells a0)))] (.rd 3 [(41, qj 0), (40, .agg (A4_Field.cells a0.F)), (39, qp 1 4)] [] (.thenN (.block (.loop (.succ (.seq (.rg [(1, qp 1 0), (40, .agg (A4_Field.cells a0.F)), (41, qj 0)] [(1, some (.cells (Delta.cells a0)))] (.rd 1 [(42, qb true)] [] (.thenN (.seq (.condT (by kernel_rfl) (.skip (.thenN (.seq (.block (.sr 5 [(3, qj 0), (4, qp 4 0), (44, .agg [lj a0.F.a0.N, ls a0.F.a0.Text]), (43, qj 0)] [(4, some (.cells [lj a0.F.a0.N, ls a0.F.a0.Text])), (4, some (.cells [lj 0, ls be]))] (.st 1 [(45, .agg [lj a0.F.a0.N, ls a0.F.a0.Text])] [] (.cl 46 true [[]] 70 [Operand.tmp 45] none (fun r4 => qb r4) [.agg [lj a0.F.a0.N, ls a0.F.a0.Text]] (F70_ok n a0.F.a0) (fun r4 => ?_)))))))))))))))))))))
    refine SimI.rn 2 [(48, qb (!(r4))), (47, qb (!(r4)))] [] (.split 48 (!(r4)) (by kernel_rfl) ?_ ?_)
    · exact SimI.rd 11 [(59, qb true), (58, .tup []), (57, .tup []), (56, .tup []), (55, .tup []), (54, .tup []), (53, .tup []), (52, .tup []), (51, .tup []), (50, .tup []), (49, .tup [])] [] (.thenN (.condT (by kernel_rfl) (.sr 1 [(2, qb false)] [] (.ret (.blockR (.thenR (.loopR (.blockR (.thenR .fn)))))))))
    · refine SimI.rn 3 [(51, qj 0), (50, .one (li .u8 a0.Mask)), (49, qp 1 1)] [] (.cl 52 true [[], []] 99 [Operand.tmp 50, Operand.tmp 51] (some (48, false)) (fun r5 => qb r5) [.one (li .u8 a0.Mask), qj 0] (F99_ok n a0.Mask 0) (fun r5 => ?_))
      refine SimI.rn 2 [(54, qb (!(r5))), (53, qb (!(r5)))] [] (.split 54 (!(r5)) (by kernel_rfl) ?_ ?_)
      · refine SimI.rn 2 [(56, .agg [lj 0, ls be]), (55, .agg [lj a0.F.a0.N, ls a0.F.a0.Text])] [] (.step ⟨some 57, POp.prim (Prim.bin BinOp.neq 25 false false) [Operand.tmp 55, Operand.tmp 56], some (54, true), []⟩ [(57, qb (!(Field.eqb a0.F.a0 (Field.mk 0 be))))] [] (by kernel_rfl) (pOp_eff (by kernel_rfl) (by kernel_rfl) (eff_prim (by kernel_rfl) (Field_eqn a0.F.a0 (Field.mk 0 be) _ _))) (.rd 2 [(59, qb (!(Field.eqb a0.F.a0 (Field.mk 0 be)))), (58, qb (!(Field.eqb a0.F.a0 (Field.mk 0 be))))] [] (.thenN (.cond (!(Field.eqb a0.F.a0 (Field.mk 0 be))) (by kernel_rfl) ?_ ?_))))
        · exact Sim.sr 1 [(2, qb false)] [] (.ret (.blockR (.thenR (.loopR (.blockR (.thenR .fn))))))
        · refine Sim.skip (.blockN (.thenN (.region0 (.rd 2 [(41, qj 1), (60, qj 1)] [] (.loopN (.pr [1, 40, 41] [1, 4] [] [(1, qp 1 0), (40, .agg (A4_Field.cells a0.F)), (41, qj 1)] [(1, some (.cells (Delta.cells a0)))] ?_))))))
          exact F77_u6_ok n a0
      · refine SimI.rd 5 [(59, qb false), (58, qb false), (57, .tup []), (56, .tup []), (55, .tup [])] [] (.thenN (.condF (by kernel_rfl) (.skip (.blockN (.thenN (.region0 (.rd 2 [(41, qj 1), (60, qj 1)] [] (.loopN (.pr [1, 40, 41] [1, 4] [] [(1, qp 1 0), (40, .agg (A4_Field.cells a0.F)), (41, qj 1)] [(1, some (.cells (Delta.cells a0)))] ?_)))))))))
        exact F77_u6_ok n a0

def F77 (n : Nat) (a0 : Delta) : Option Bool :=
  if decide (a0.ID < 0) then
    some false
  else
    if decide ((1000000 : Int) < a0.ID) then
      some false
    else
      if a0.Mask == 0 then
        some false
      else
        if decide ((31 : Int) < a0.Mask) then
          some false
        else
          if (bitsI .and .u8 a0.Mask 1) == 0 then
            if !(Point.eqb a0.At (Point.mk 0 0)) then
              some false
            else
              (F67 n a0.At).bind fun (r1 : Bool) =>
              if !(r1) then
                some false
              else
                F77_j3 n a0
          else
            (F67 n a0.At).bind fun (r2 : Bool) =>
            if !(r2) then
              some false
            else
              F77_j3 n a0
theorem F77_ok (n : Nat) (a0 : Delta) : ∀ r, F77 n a0 = some r → D 77 [.agg (Delta.cells a0)] [] = some (F77_e r) := by
  refine fn_to (D := D) (n := n + 8) (nt := 61) (rs := pc77_r) (c := pc77_c44) (L := [(0, .agg (Delta.cells a0))]) (M := []) (k := 0) rfl rfl rfl rfl rfl rfl rfl ?_
  unfold F77
  refine Sim.sr 2 [(2, qb false), (1, qp 1 0)] [(1, some (.cells (Delta.cells a0)))] (.seq (.st 4 [(8, qb (decide (a0.ID < 0))), (7, qb (decide (a0.ID < 0))), (6, qj a0.ID), (5, qp 1 0)] [] (.split 8 (decide (a0.ID < 0)) (by kernel_rfl) ?_ ?_)))
  · exact SimI.rd 14 [(22, qb true), (21, .tup []), (20, .tup []), (19, .tup []), (18, qb true), (17, qb true), (16, .tup []), (15, .tup []), (14, .tup []), (13, qb true), (12, qb true), (11, .tup []), (10, .tup []), (9, .tup [])] [] (.thenN (.condT (by kernel_rfl) (.sr 1 [(2, qb false)] [] (.ret (.thenR .fn)))))
  · refine SimI.rn 5 [(13, qb (decide ((1000000 : Int) < a0.ID))), (12, qb (decide ((1000000 : Int) < a0.ID))), (11, qb (decide ((1000000 : Int) < a0.ID))), (10, qj a0.ID), (9, qp 1 0)] [] (.split 13 (decide ((1000000 : Int) < a0.ID)) (by kernel_rfl) ?_ ?_)
    · exact SimI.rd 9 [(22, qb true), (21, .tup []), (20, .tup []), (19, .tup []), (18, qb true), (17, qb true), (16, .tup []), (15, .tup []), (14, .tup [])] [] (.thenN (.condT (by kernel_rfl) (.sr 1 [(2, qb false)] [] (.ret (.thenR .fn)))))
    · refine SimI.rn 5 [(18, qb (a0.Mask == 0)), (17, qb (a0.Mask == 0)), (16, qb (a0.Mask == 0)), (15, .one (li .u8 a0.Mask)), (14, qp 1 1)] [] (.split 18 (a0.Mask == 0) (by kernel_rfl) ?_ ?_)
      · exact SimI.rd 4 [(22, qb true), (21, .tup []), (20, .tup []), (19, .tup [])] [] (.thenN (.condT (by kernel_rfl) (.sr 1 [(2, qb false)] [] (.ret (.thenR .fn)))))
      · refine SimI.rd 4 [(22, qb (decide ((31 : Int) < a0.Mask))), (21, qb (decide ((31 : Int) < a0.Mask))), (20, .one (li .u8 a0.Mask)), (19, qp 1 1)] [] (.thenN (.cond (decide ((31 : Int) < a0.Mask)) (by kernel_rfl) ?_ ?_))
        · exact Sim.sr 1 [(2, qb false)] [] (.ret (.thenR .fn))
        · refine Sim.skip (.thenN (.seq (.st 5 [(27, qb ((bitsI .and .u8 a0.Mask 1) == 0)), (26, qb ((bitsI .and .u8 a0.Mask 1) == 0)), (25, .one (li .u8 (bitsI .and .u8 a0.Mask 1))), (24, .one (li .u8 a0.Mask)), (23, qp 1 1)] [] (.split 27 ((bitsI .and .u8 a0.Mask 1) == 0) (by kernel_rfl) ?_ ?_))))
          · refine SimI.rn 3 [(30, .agg [lj 0, lj 0]), (29, .agg [lj a0.At.X, lj a0.At.Y]), (28, qp 1 2)] [] (.step ⟨some 31, POp.prim (Prim.bin BinOp.neq 23 false false) [Operand.tmp 29, Operand.tmp 30], some (27, true), []⟩ [(31, qb (!(Point.eqb a0.At (Point.mk 0 0))))] [] (by kernel_rfl) (pOp_eff (by kernel_rfl) (by kernel_rfl) (eff_prim (by kernel_rfl) (Point_eqn a0.At (Point.mk 0 0) _ _))) (.rn 2 [(33, qb (!(Point.eqb a0.At (Point.mk 0 0)))), (32, qb (!(Point.eqb a0.At (Point.mk 0 0))))] [] (.split 33 (!(Point.eqb a0.At (Point.mk 0 0))) (by kernel_rfl) ?_ ?_)))
            · exact SimI.rd 5 [(38, qb true), (37, .tup []), (36, .tup []), (35, .tup []), (34, .tup [])] [] (.thenN (.condT (by kernel_rfl) (.sr 1 [(2, qb false)] [] (.ret (.thenR .fn)))))
            · refine SimI.rn 2 [(35, .agg [lj a0.At.X, lj a0.At.Y]), (34, qp 1 2)] [] (.cl 36 true [[]] 67 [Operand.tmp 35] (some (33, false)) (fun r1 => qb r1) [.agg [lj a0.At.X, lj a0.At.Y]] (F67_ok n a0.At) (fun r1 => ?_))
              refine SimI.rd 2 [(38, qb (!(r1))), (37, qb (!(r1)))] [] (.thenN (.cond (!(r1)) (by kernel_rfl) ?_ ?_))
              · exact Sim.sr 1 [(2, qb false)] [] (.ret (.thenR .fn))
              · refine Sim.skip (.thenN (.pr [1] [1] [] [(1, qp 1 0)] [(1, some (.cells (Delta.cells a0)))] ?_))
                exact F77_j3_ok n a0
          · refine SimI.rn 8 [(35, .agg [lj a0.At.X, lj a0.At.Y]), (34, qp 1 2), (33, qb false), (32, qb false), (31, .tup []), (30, .tup []), (29, .tup []), (28, .tup [])] [] (.cl 36 true [[]] 67 [Operand.tmp 35] (some (33, false)) (fun r2 => qb r2) [.agg [lj a0.At.X, lj a0.At.Y]] (F67_ok n a0.At) (fun r2 => ?_))
            refine SimI.rd 2 [(38, qb (!(r2))), (37, qb (!(r2)))] [] (.thenN (.cond (!(r2)) (by kernel_rfl) ?_ ?_))
            · exact Sim.sr 1 [(2, qb false)] [] (.ret (.thenR .fn))
            · refine Sim.skip (.thenN (.pr [1] [1] [] [(1, qp 1 0)] [(1, some (.cells (Delta.cells a0)))] ?_))
              exact F77_j3_ok n a0


-- 39: vedette/event.Is
def F39_e : Bool → PV × List Ob := fun r => (.one (lb r), [])
def F39 (n : Nat) (a0 : Event) : Option Bool :=
  if a0.Kind == 1 then
    (F24 n a0.Thing).bind fun (r1 : Bool) =>
    if r1 then
      if a0.ID == a0.Thing.ID then
        some (Delta.eqb a0.Delta (Delta.mk 0 0 (Point.mk 0 0) (A4.mk (Field.mk 0 ByteArray.empty) (Field.mk 0 ByteArray.empty) (Field.mk 0 ByteArray.empty) (Field.mk 0 ByteArray.empty))))
      else
        some false
    else
      some false
  else
    if a0.Kind == 2 then
      (F77 n a0.Delta).bind fun (r2 : Bool) =>
      if r2 then
        if a0.ID == a0.Delta.ID then
          some (Thing.eqb a0.Thing (Thing.mk 0 (Point.mk 0 0) (A4.mk (Field.mk 0 ByteArray.empty) (Field.mk 0 ByteArray.empty) (Field.mk 0 ByteArray.empty) (Field.mk 0 ByteArray.empty))))
        else
          some false
      else
        some false
    else
      if a0.Kind == 3 then
        if decide ((0 : Int) ≤ a0.ID) then
          if decide (a0.ID ≤ 1000000) then
            if Thing.eqb a0.Thing (Thing.mk 0 (Point.mk 0 0) (A4.mk (Field.mk 0 ByteArray.empty) (Field.mk 0 ByteArray.empty) (Field.mk 0 ByteArray.empty) (Field.mk 0 ByteArray.empty))) then
              some (Delta.eqb a0.Delta (Delta.mk 0 0 (Point.mk 0 0) (A4.mk (Field.mk 0 ByteArray.empty) (Field.mk 0 ByteArray.empty) (Field.mk 0 ByteArray.empty) (Field.mk 0 ByteArray.empty))))
            else
              some false
          else
            some false
        else
          some false
      else
        some false
theorem F39_ok (n : Nat) (a0 : Event) : ∀ r, F39 n a0 = some r → D 39 [.agg (Event.cells a0)] [] = some (F39_e r) := by
  refine fn_to (D := D) (n := n + 8) (nt := 63) (rs := pc39_r) (c := pc39_c30) (L := [(0, .agg (Event.cells a0))]) (M := []) (k := 0) rfl rfl rfl rfl rfl rfl rfl ?_
  unfold F39
  refine Sim.sr 2 [(2, qb false), (1, qp 1 0)] [(1, some (.cells (Event.cells a0)))] (.st 3 [(7, .agg [lj 0, lj 0, lj 0, lj 0, ls be, lj 0, ls be, lj 0, ls be, lj 0, ls be]), (6, .agg (Thing.cells a0.Thing)), (5, qp 1 2)] [] (.step ⟨some 8, POp.prim (Prim.bin BinOp.eql 28 false false) [Operand.tmp 6, Operand.tmp 7], none, [(6, Hint.imm), (7, Hint.imm)]⟩ [(8, qb (Thing.eqb a0.Thing (Thing.mk 0 (Point.mk 0 0) (A4.mk (Field.mk 0 be) (Field.mk 0 be) (Field.mk 0 be) (Field.mk 0 be)))))] [] (by kernel_rfl) (pOp_eff (by kernel_rfl) (by kernel_rfl) (eff_prim (by kernel_rfl) (Thing_eql a0.Thing (Thing.mk 0 (Point.mk 0 0) (A4.mk (Field.mk 0 be) (Field.mk 0 be) (Field.mk 0 be) (Field.mk 0 be))) _ _))) (.rn 3 [(11, .agg [lj 0, li .u8 0, lj 0, lj 0, lj 0, ls be, lj 0, ls be, lj 0, ls be, lj 0, ls be]), (10, .agg (Delta.cells a0.Delta)), (9, qp 1 13)] [] (.step ⟨some 12, POp.prim (Prim.bin BinOp.eql 35 false false) [Operand.tmp 10, Operand.tmp 11], none, [(10, Hint.imm), (11, Hint.imm)]⟩ [(12, qb (Delta.eqb a0.Delta (Delta.mk 0 0 (Point.mk 0 0) (A4.mk (Field.mk 0 be) (Field.mk 0 be) (Field.mk 0 be) (Field.mk 0 be)))))] [] (by kernel_rfl) (pOp_eff (by kernel_rfl) (by kernel_rfl) (eff_prim (by kernel_rfl) (Delta_eql a0.Delta (Delta.mk 0 0 (Point.mk 0 0) (A4.mk (Field.mk 0 be) (Field.mk 0 be) (Field.mk 0 be) (Field.mk 0 be))) _ _))) (.rd 2 [(4, qb (Delta.eqb a0.Delta (Delta.mk 0 0 (Point.mk 0 0) (A4.mk (Field.mk 0 be) (Field.mk 0 be) (Field.mk 0 be) (Field.mk 0 be))))), (3, qb (Thing.eqb a0.Thing (Thing.mk 0 (Point.mk 0 0) (A4.mk (Field.mk 0 be) (Field.mk 0 be) (Field.mk 0 be) (Field.mk 0 be)))))] [] (.thenN (.seq (.sr 2 [(14, qj a0.Kind), (13, qp 1 0)] [] (.block (.sr 2 [(15, qb (a0.Kind == 1)), (16, qb (a0.Kind == 1))] [] (.cond (a0.Kind == 1) (by kernel_rfl) ?_ ?_)))))))))))
  · refine Sim.st 2 [(18, .agg (Thing.cells a0.Thing)), (17, qp 1 2)] [] (.cl 19 true [[]] 24 [Operand.tmp 18] none (fun r1 => qb r1) [.agg (Thing.cells a0.Thing)] (F24_ok n a0.Thing) (fun r1 => ?_))
    refine SimI.rn 1 [(20, qb r1)] [] (.split 20 r1 (by kernel_rfl) ?_ ?_)
    · refine SimI.rn 8 [(28, qb (a0.ID == a0.Thing.ID)), (27, qb (a0.ID == a0.Thing.ID)), (26, qb (a0.ID == a0.Thing.ID)), (25, qj a0.Thing.ID), (24, qp 1 2), (23, qp 1 2), (22, qj a0.ID), (21, qp 1 1)] [] (.split 28 (a0.ID == a0.Thing.ID) (by kernel_rfl) ?_ ?_)
      · exact SimI.rd 3 [(2, qb (Delta.eqb a0.Delta (Delta.mk 0 0 (Point.mk 0 0) (A4.mk (Field.mk 0 be) (Field.mk 0 be) (Field.mk 0 be) (Field.mk 0 be))))), (30, qb (Delta.eqb a0.Delta (Delta.mk 0 0 (Point.mk 0 0) (A4.mk (Field.mk 0 be) (Field.mk 0 be) (Field.mk 0 be) (Field.mk 0 be))))), (29, qb (Delta.eqb a0.Delta (Delta.mk 0 0 (Point.mk 0 0) (A4.mk (Field.mk 0 be) (Field.mk 0 be) (Field.mk 0 be) (Field.mk 0 be)))))] [] (.thenN (.ret (.blockR (.thenR .fn))))
      · exact SimI.rd 3 [(2, qb false), (30, qb false), (29, .tup [])] [] (.thenN (.ret (.blockR (.thenR .fn))))
    · exact SimI.rd 11 [(2, qb false), (30, qb false), (29, .tup []), (28, qb false), (27, qb false), (26, .tup []), (25, .tup []), (24, .tup []), (23, .tup []), (22, .tup []), (21, .tup [])] [] (.thenN (.ret (.blockR (.thenR .fn))))
  · refine Sim.sr 2 [(31, qb (a0.Kind == 2)), (32, qb (a0.Kind == 2))] [] (.cond (a0.Kind == 2) (by kernel_rfl) ?_ ?_)
    · refine Sim.st 2 [(34, .agg (Delta.cells a0.Delta)), (33, qp 1 13)] [] (.cl 35 true [[]] 77 [Operand.tmp 34] none (fun r2 => qb r2) [.agg (Delta.cells a0.Delta)] (F77_ok n a0.Delta) (fun r2 => ?_))
      refine SimI.rn 1 [(36, qb r2)] [] (.split 36 r2 (by kernel_rfl) ?_ ?_)
      · refine SimI.rn 8 [(44, qb (a0.ID == a0.Delta.ID)), (43, qb (a0.ID == a0.Delta.ID)), (42, qb (a0.ID == a0.Delta.ID)), (41, qj a0.Delta.ID), (40, qp 1 13), (39, qp 1 13), (38, qj a0.ID), (37, qp 1 1)] [] (.split 44 (a0.ID == a0.Delta.ID) (by kernel_rfl) ?_ ?_)
        · exact SimI.rd 3 [(2, qb (Thing.eqb a0.Thing (Thing.mk 0 (Point.mk 0 0) (A4.mk (Field.mk 0 be) (Field.mk 0 be) (Field.mk 0 be) (Field.mk 0 be))))), (46, qb (Thing.eqb a0.Thing (Thing.mk 0 (Point.mk 0 0) (A4.mk (Field.mk 0 be) (Field.mk 0 be) (Field.mk 0 be) (Field.mk 0 be))))), (45, qb (Thing.eqb a0.Thing (Thing.mk 0 (Point.mk 0 0) (A4.mk (Field.mk 0 be) (Field.mk 0 be) (Field.mk 0 be) (Field.mk 0 be)))))] [] (.thenN (.ret (.blockR (.thenR .fn))))
        · exact SimI.rd 3 [(2, qb false), (46, qb false), (45, .tup [])] [] (.thenN (.ret (.blockR (.thenR .fn))))
      · exact SimI.rd 11 [(2, qb false), (46, qb false), (45, .tup []), (44, qb false), (43, qb false), (42, .tup []), (41, .tup []), (40, .tup []), (39, .tup []), (38, .tup []), (37, .tup [])] [] (.thenN (.ret (.blockR (.thenR .fn))))
    · refine Sim.sr 2 [(47, qb (a0.Kind == 3)), (48, qb (a0.Kind == 3))] [] (.cond (a0.Kind == 3) (by kernel_rfl) ?_ ?_)
      · refine Sim.st 4 [(52, qb (decide ((0 : Int) ≤ a0.ID))), (51, qb (decide ((0 : Int) ≤ a0.ID))), (50, qj a0.ID), (49, qp 1 1)] [] (.split 52 (decide ((0 : Int) ≤ a0.ID)) (by kernel_rfl) ?_ ?_)
        · refine SimI.rn 5 [(57, qb (decide (a0.ID ≤ 1000000))), (56, qb (decide (a0.ID ≤ 1000000))), (55, qb (decide (a0.ID ≤ 1000000))), (54, qj a0.ID), (53, qp 1 1)] [] (.split 57 (decide (a0.ID ≤ 1000000)) (by kernel_rfl) ?_ ?_)
          · refine SimI.rn 3 [(60, qb (Thing.eqb a0.Thing (Thing.mk 0 (Point.mk 0 0) (A4.mk (Field.mk 0 be) (Field.mk 0 be) (Field.mk 0 be) (Field.mk 0 be))))), (59, qb (Thing.eqb a0.Thing (Thing.mk 0 (Point.mk 0 0) (A4.mk (Field.mk 0 be) (Field.mk 0 be) (Field.mk 0 be) (Field.mk 0 be))))), (58, qb (Thing.eqb a0.Thing (Thing.mk 0 (Point.mk 0 0) (A4.mk (Field.mk 0 be) (Field.mk 0 be) (Field.mk 0 be) (Field.mk 0 be)))))] [] (.split 60 (Thing.eqb a0.Thing (Thing.mk 0 (Point.mk 0 0) (A4.mk (Field.mk 0 be) (Field.mk 0 be) (Field.mk 0 be) (Field.mk 0 be)))) (by kernel_rfl) ?_ ?_)
            · exact SimI.rd 3 [(2, qb (Delta.eqb a0.Delta (Delta.mk 0 0 (Point.mk 0 0) (A4.mk (Field.mk 0 be) (Field.mk 0 be) (Field.mk 0 be) (Field.mk 0 be))))), (62, qb (Delta.eqb a0.Delta (Delta.mk 0 0 (Point.mk 0 0) (A4.mk (Field.mk 0 be) (Field.mk 0 be) (Field.mk 0 be) (Field.mk 0 be))))), (61, qb (Delta.eqb a0.Delta (Delta.mk 0 0 (Point.mk 0 0) (A4.mk (Field.mk 0 be) (Field.mk 0 be) (Field.mk 0 be) (Field.mk 0 be)))))] [] (.thenN (.ret (.blockR (.thenR .fn))))
            · exact SimI.rd 3 [(2, qb false), (62, qb false), (61, .tup [])] [] (.thenN (.ret (.blockR (.thenR .fn))))
          · exact SimI.rd 6 [(2, qb false), (62, qb false), (61, .tup []), (60, qb false), (59, qb false), (58, .tup [])] [] (.thenN (.ret (.blockR (.thenR .fn))))
        · exact SimI.rd 11 [(2, qb false), (62, qb false), (61, .tup []), (60, qb false), (59, qb false), (58, .tup []), (57, qb false), (56, qb false), (55, .tup []), (54, .tup []), (53, .tup [])] [] (.thenN (.ret (.blockR (.thenR .fn))))
      · exact Sim.skip (.blockN (.thenN (.sr 1 [(2, qb false)] [] (.ret .fn))))


-- 73: vedette/num.Get
def F73_e : (Int × Int × Int) → PV × List Ob := fun r => (.tup [.one (li .u64 r.1), .one (li .i64 r.2.1), .one (li .i64 r.2.2)], [])
def F73_j13 (n : Nat) (i11 : Int) (i12 : Int) : Option (Int × Int × Int) :=
    if i12 == 0 then
      some (0, 0, 10)
    else
      some (i11, i12, 0)
theorem F73_j13_ok (n : Nat) (i11 : Int) (i12 : Int) : Sim Try.prog D (n + 8) pc73_c51 [(5, .one (li .u64 i11)), (6, qj i12)] [] (F73_j13 n i11 i12) (QF false pc73_r 0 F73_e) := by
    unfold F73_j13
    refine Sim.seq (.seq (.rg [(5, .one (li .u64 i11)), (6, qj i12)] [] (.rd 2 [(52, qb (i12 == 0)), (51, qj i12)] [] (.thenN (.cond (i12 == 0) (by kernel_rfl) ?_ ?_)))))
    · exact Sim.sr 3 [(4, qj 10), (3, qj 0), (2, .one (li .u64 0))] [] (.ret (.thenR .fn))
    · exact Sim.skip (.thenN (.sr 5 [(4, qj 0), (3, qj i12), (2, .one (li .u64 i11)), (54, qj i12), (53, .one (li .u64 i11))] [] (.ret .fn)))

def F73_j10 (n : Nat) (i5 : Int) (i6 : Int) (x8 : Int) (rec_l7 : Int → Int → Option (Int × Int × Int)) : Option (Int × Int × Int) :=
    if decide (x8 < 128) then
      if ¬ (IntKind.wrap .i64 (7 * i6) < 0) then
        F73_j13 n (bitsI .or .u64 i5 (shlI .u64 (IntKind.wrap .u64 x8) (IntKind.wrap .i64 (7 * i6)))) (IntKind.wrap .i64 (i6 + 1))
      else none
    else
      if ¬ (IntKind.wrap .i64 (7 * i6) < 0) then
        rec_l7 (bitsI .or .u64 i5 (shlI .u64 (IntKind.wrap .u64 (bitsI .andNot .u8 x8 128)) (IntKind.wrap .i64 (7 * i6)))) (IntKind.wrap .i64 (i6 + 1))
      else none
theorem F73_j10_ok (n : Nat) (a0 : ByteArray) (i5 : Int) (i6 : Int) (x8 : Int) (rec_l7 : Int → Int → Option (Int × Int × Int)) (m_l7 : Nat) (ih_l7 : ∀ (i5 : Int) (i6 : Int), SimL Try.prog D (n + 8) m_l7 pc73_c37 [(5, .one (li .u64 i5)), (6, qj 0), (10, .one (vw (codI .u8) (bytesL a0))), (11, qj ((bytesL a0).length : Int)), (12, qj i6)] [] (rec_l7 i5 i6) (QB 0 (QT Try.prog D (n + 8) pc73_c51 (QF false pc73_r 0 F73_e)))) : Sim Try.prog D (n + 8) pc73_c26 [(5, .one (li .u64 i5)), (6, qj 0), (7, qj i6), (8, .one (li .u8 x8)), (10, .one (vw (codI .u8) (bytesL a0))), (11, qj ((bytesL a0).length : Int)), (12, qj i6)] [] (F73_j10 n i5 i6 x8 rec_l7) (QB 2 (QT Try.prog D (n + 8) pc73_c30 (QB 1 (QT Try.prog D (n + 8) pc73_c34 (QL Try.prog D (n + 8) m_l7 pc73_c37 (QB 0 (QT Try.prog D (n + 8) pc73_c51 (QF false pc73_r 0 F73_e)))))))) := by
    unfold F73_j10
    refine Sim.seq (.rg [(5, .one (li .u64 i5)), (6, qj 0), (7, qj i6), (8, .one (li .u8 x8)), (10, .one (vw (codI .u8) (bytesL a0))), (11, qj ((bytesL a0).length : Int)), (12, qj i6)] [] (.rd 3 [(30, qb (decide (x8 < 128))), (32, qb (decide (x8 < 128))), (31, .one (li .u8 x8))] [] (.thenN (.cond (decide (x8 < 128)) (by kernel_rfl) ?_ ?_))))
    · refine Sim.st 5 [(37, qj (IntKind.wrap .i64 (7 * i6))), (36, qj i6), (35, .one (li .u64 (IntKind.wrap .u64 x8))), (34, .one (li .u8 x8)), (33, .one (li .u64 i5))] [] (.guard (c := ¬ (IntKind.wrap .i64 (7 * i6) < 0)) ⟨some 38, POp.prim (Prim.bin BinOp.shl 89 false false) [Operand.tmp 35, Operand.tmp 37], none, []⟩ [(38, .one (li .u64 (shlI .u64 (IntKind.wrap .u64 x8) (IntKind.wrap .i64 (7 * i6)))))] [] (by kernel_rfl) (fun hc => pOp_eff (by kernel_rfl) (by kernel_rfl) (eff_prim (by kernel_rfl) (pr_shl _ _ _ .u64 .i64 (IntKind.wrap .u64 x8) (IntKind.wrap .i64 (7 * i6)) hc))) (.rd 2 [(5, .one (li .u64 (bitsI .or .u64 i5 (shlI .u64 (IntKind.wrap .u64 x8) (IntKind.wrap .i64 (7 * i6)))))), (39, .one (li .u64 (bitsI .or .u64 i5 (shlI .u64 (IntKind.wrap .u64 x8) (IntKind.wrap .i64 (7 * i6))))))] [] (.thenN (.sr 3 [(6, qj (IntKind.wrap .i64 (i6 + 1))), (41, qj (IntKind.wrap .i64 (i6 + 1))), (40, qj i6)] [] (.exit (.blockY rfl (.thenX (.blockY rfl (.thenX (.loopX (.blockX (.thenN (.pr [5, 6] [] [] [(5, .one (li .u64 (bitsI .or .u64 i5 (shlI .u64 (IntKind.wrap .u64 x8) (IntKind.wrap .i64 (7 * i6)))))), (6, qj (IntKind.wrap .i64 (i6 + 1)))] [] ?_)))))))))))))
      exact F73_j13_ok n (bitsI .or .u64 i5 (shlI .u64 (IntKind.wrap .u64 x8) (IntKind.wrap .i64 (7 * i6)))) (IntKind.wrap .i64 (i6 + 1))
    · refine Sim.skip (.blockN (.thenN (.region0 (.rn 6 [(47, qj (IntKind.wrap .i64 (7 * i6))), (46, qj i6), (45, .one (li .u64 (IntKind.wrap .u64 (bitsI .andNot .u8 x8 128)))), (44, .one (li .u8 (bitsI .andNot .u8 x8 128))), (43, .one (li .u8 x8)), (42, .one (li .u64 i5))] [] (.guard (c := ¬ (IntKind.wrap .i64 (7 * i6) < 0)) ⟨some 48, POp.prim (Prim.bin BinOp.shl 89 false false) [Operand.tmp 45, Operand.tmp 47], none, []⟩ [(48, .one (li .u64 (shlI .u64 (IntKind.wrap .u64 (bitsI .andNot .u8 x8 128)) (IntKind.wrap .i64 (7 * i6)))))] [] (by kernel_rfl) (fun hc => pOp_eff (by kernel_rfl) (by kernel_rfl) (eff_prim (by kernel_rfl) (pr_shl _ _ _ .u64 .i64 (IntKind.wrap .u64 (bitsI .andNot .u8 x8 128)) (IntKind.wrap .i64 (7 * i6)) hc))) (.rd 2 [(5, .one (li .u64 (bitsI .or .u64 i5 (shlI .u64 (IntKind.wrap .u64 (bitsI .andNot .u8 x8 128)) (IntKind.wrap .i64 (7 * i6)))))), (49, .one (li .u64 (bitsI .or .u64 i5 (shlI .u64 (IntKind.wrap .u64 (bitsI .andNot .u8 x8 128)) (IntKind.wrap .i64 (7 * i6))))))] [] (.blockN (.thenN (.region0 (.rd 2 [(12, qj (IntKind.wrap .i64 (i6 + 1))), (50, qj (IntKind.wrap .i64 (i6 + 1)))] [] (.loopN (.pr [5, 6, 10, 11, 12] [] [] [(5, .one (li .u64 (bitsI .or .u64 i5 (shlI .u64 (IntKind.wrap .u64 (bitsI .andNot .u8 x8 128)) (IntKind.wrap .i64 (7 * i6)))))), (6, qj 0), (10, .one (vw (codI .u8) (bytesL a0))), (11, qj ((bytesL a0).length : Int)), (12, qj (IntKind.wrap .i64 (i6 + 1)))] [] ?_))))))))))))
      exact ih_l7 (bitsI .or .u64 i5 (shlI .u64 (IntKind.wrap .u64 (bitsI .andNot .u8 x8 128)) (IntKind.wrap .i64 (7 * i6)))) (IntKind.wrap .i64 (i6 + 1))

def F73_j9 (n : Nat) (i5 : Int) (i6 : Int) (x8 : Int) (rec_l7 : Int → Int → Option (Int × Int × Int)) : Option (Int × Int × Int) :=
    if decide ((0 : Int) < i6) then
      if x8 == 0 then
        some (0, 0, 11)
      else
        F73_j10 n i5 i6 x8 rec_l7
    else
      F73_j10 n i5 i6 x8 rec_l7
theorem F73_j9_ok (n : Nat) (a0 : ByteArray) (i5 : Int) (i6 : Int) (x8 : Int) (rec_l7 : Int → Int → Option (Int × Int × Int)) (m_l7 : Nat) (ih_l7 : ∀ (i5 : Int) (i6 : Int), SimL Try.prog D (n + 8) m_l7 pc73_c37 [(5, .one (li .u64 i5)), (6, qj 0), (10, .one (vw (codI .u8) (bytesL a0))), (11, qj ((bytesL a0).length : Int)), (12, qj i6)] [] (rec_l7 i5 i6) (QB 0 (QT Try.prog D (n + 8) pc73_c51 (QF false pc73_r 0 F73_e)))) : Sim Try.prog D (n + 8) pc73_c12 [(5, .one (li .u64 i5)), (6, qj 0), (7, qj i6), (8, .one (li .u8 x8)), (10, .one (vw (codI .u8) (bytesL a0))), (11, qj ((bytesL a0).length : Int)), (12, qj i6)] [] (F73_j9 n i5 i6 x8 rec_l7) (QT Try.prog D (n + 8) pc73_c27 (QB 2 (QT Try.prog D (n + 8) pc73_c30 (QB 1 (QT Try.prog D (n + 8) pc73_c34 (QL Try.prog D (n + 8) m_l7 pc73_c37 (QB 0 (QT Try.prog D (n + 8) pc73_c51 (QF false pc73_r 0 F73_e))))))))) := by
    unfold F73_j9
    refine Sim.rg [(5, .one (li .u64 i5)), (6, qj 0), (7, qj i6), (8, .one (li .u8 x8)), (10, .one (vw (codI .u8) (bytesL a0))), (11, qj ((bytesL a0).length : Int)), (12, qj i6)] [] (.rn 3 [(26, qb (decide ((0 : Int) < i6))), (25, qb (decide ((0 : Int) < i6))), (24, qj i6)] [] (.split 26 (decide ((0 : Int) < i6)) (by kernel_rfl) ?_ ?_))
    · refine SimI.rd 4 [(17, qb (x8 == 0)), (29, qb (x8 == 0)), (28, qb (x8 == 0)), (27, .one (li .u8 x8))] [] (.thenN (.cond (x8 == 0) (by kernel_rfl) ?_ ?_))
      · exact Sim.sr 3 [(4, qj 11), (3, qj 0), (2, .one (li .u64 0))] [] (.ret (.blockR (.thenR (.blockR (.thenR (.loopR (.blockR (.thenR .fn))))))))
      · refine Sim.pr [5, 6, 7, 8, 10, 11, 12] [] [] [(5, .one (li .u64 i5)), (6, qj 0), (7, qj i6), (8, .one (li .u8 x8)), (10, .one (vw (codI .u8) (bytesL a0))), (11, qj ((bytesL a0).length : Int)), (12, qj i6)] [] ?_
        exact F73_j10_ok n a0 i5 i6 x8 rec_l7 m_l7 ih_l7
    · refine SimI.rd 4 [(17, qb false), (29, qb false), (28, .tup []), (27, .tup [])] [] (.thenN (.condF (by kernel_rfl) (.pr [5, 6, 7, 8, 10, 11, 12] [] [] [(5, .one (li .u64 i5)), (6, qj 0), (7, qj i6), (8, .one (li .u8 x8)), (10, .one (vw (codI .u8) (bytesL a0))), (11, qj ((bytesL a0).length : Int)), (12, qj i6)] [] ?_)))
      exact F73_j10_ok n a0 i5 i6 x8 rec_l7 m_l7 ih_l7

def F73_l7 (n : Nat) (a0 : ByteArray) : Nat → Int → Int → Option (Int × Int × Int)
  | 0, _, _ => none
  | m + 1, i5, i6 =>
    if decide (i6 < ((bytesL a0).length : Int)) then
      (ix (bytesL a0) i6).bind fun (x8 : Int) =>
      if i6 == 9 then
        if decide ((1 : Int) < x8) then
          if decide ((1 : Int) < x8) then
            some (0, 0, 11)
          else
            F73_j10 n i5 i6 x8 (F73_l7 n a0 m)
        else
          F73_j9 n i5 i6 x8 (F73_l7 n a0 m)
      else
        F73_j9 n i5 i6 x8 (F73_l7 n a0 m)
    else
      F73_j13 n i5 0
theorem F73_l7_ok (n : Nat) (a0 : ByteArray) : ∀ (m : Nat) (i5 : Int) (i6 : Int), SimL Try.prog D (n + 8) m pc73_c37 [(5, .one (li .u64 i5)), (6, qj 0), (10, .one (vw (codI .u8) (bytesL a0))), (11, qj ((bytesL a0).length : Int)), (12, qj i6)] [] (F73_l7 n a0 m i5 i6) (QB 0 (QT Try.prog D (n + 8) pc73_c51 (QF false pc73_r 0 F73_e))) := by
  intro m_l7
  induction m_l7 with
  | zero => intro i5 i6; exact SimL.zero'  rfl
  | succ m_l7 ih_l7 =>
    intro i5 i6
    refine SimL.succ ?_
    unfold F73_l7
    refine Sim.seq (.rg [(5, .one (li .u64 i5)), (6, qj 0), (10, .one (vw (codI .u8) (bytesL a0))), (11, qj ((bytesL a0).length : Int)), (12, qj i6)] [] (.rd 1 [(13, qb (decide (i6 < ((bytesL a0).length : Int))))] [] (.thenN (.seq (.cond (decide (i6 < ((bytesL a0).length : Int))) (by kernel_rfl) ?_ ?_)))))
    · refine Sim.skip (.thenN (.seq (.block (.st 1 [(14, qj i6)] [] (.bind (og := ix (bytesL a0) i6) ⟨some 15, POp.iaddrS 1 (Operand.tmp 10) (Operand.tmp 12), none, []⟩ (fun x8 => [(15, .one (.eptr ((codI .u8).enc x8) 0))]) (fun x8 => []) (by kernel_rfl) (fun x8 hr => pOp_eff (by kernel_rfl) (by kernel_rfl) (eff_idx (c := (codI .u8)) (l := bytesL a0) (k := .i64) (n := i6) (by kernel_rfl) (by kernel_rfl) (by kernel_rfl) hr)) (fun x8 => ?_))))))
      refine SimI.rd 3 [(8, .one (li .u8 x8)), (7, qj i6), (16, .one (li .u8 x8))] [] (.thenN (.seq (.block (.seq (.st 3 [(20, qb (i6 == 9)), (19, qb (i6 == 9)), (18, qj i6)] [] (.split 20 (i6 == 9) (by kernel_rfl) ?_ ?_))))))
      · refine SimI.rd 4 [(17, qb (decide ((1 : Int) < x8))), (23, qb (decide ((1 : Int) < x8))), (22, qb (decide ((1 : Int) < x8))), (21, .one (li .u8 x8))] [] (.thenN (.cond (decide ((1 : Int) < x8)) (by kernel_rfl) ?_ ?_))
        · refine Sim.skip (.thenN (.cond (decide ((1 : Int) < x8)) (by kernel_rfl) ?_ ?_))
          · exact Sim.sr 3 [(4, qj 11), (3, qj 0), (2, .one (li .u64 0))] [] (.ret (.blockR (.thenR (.blockR (.thenR (.loopR (.blockR (.thenR .fn))))))))
          · refine Sim.pr [5, 6, 7, 8, 10, 11, 12] [] [] [(5, .one (li .u64 i5)), (6, qj 0), (7, qj i6), (8, .one (li .u8 x8)), (10, .one (vw (codI .u8) (bytesL a0))), (11, qj ((bytesL a0).length : Int)), (12, qj i6)] [] ?_
            exact F73_j10_ok n a0 i5 i6 x8 (F73_l7 n a0 m_l7) m_l7 ih_l7
        · refine Sim.pr [5, 6, 7, 8, 10, 11, 12] [] [] [(5, .one (li .u64 i5)), (6, qj 0), (7, qj i6), (8, .one (li .u8 x8)), (10, .one (vw (codI .u8) (bytesL a0))), (11, qj ((bytesL a0).length : Int)), (12, qj i6)] [] ?_
          exact F73_j9_ok n a0 i5 i6 x8 (F73_l7 n a0 m_l7) m_l7 ih_l7
      · refine SimI.rd 4 [(17, qb false), (23, qb false), (22, .tup []), (21, .tup [])] [] (.thenN (.condF (by kernel_rfl) (.pr [5, 6, 7, 8, 10, 11, 12] [] [] [(5, .one (li .u64 i5)), (6, qj 0), (7, qj i6), (8, .one (li .u8 x8)), (10, .one (vw (codI .u8) (bytesL a0))), (11, qj ((bytesL a0).length : Int)), (12, qj i6)] [] ?_)))
        exact F73_j9_ok n a0 i5 i6 x8 (F73_l7 n a0 m_l7) m_l7 ih_l7
    · refine Sim.exit (.thenX (.loopX (.blockX (.thenN (.pr [5, 6] [] [] [(5, .one (li .u64 i5)), (6, qj 0)] [] ?_)))))
      exact F73_j13_ok n i5 0

def F73 (n : Nat) (a0 : ByteArray) : Option (Int × Int × Int) :=
  F73_l7 n a0 (n + 8) 0 0
theorem F73_ok (n : Nat) (a0 : ByteArray) : ∀ r, F73 n a0 = some r → D 73 [.one (ls a0)] [] = some (F73_e r) := by
  refine fn_to (D := D) (n := n + 8) (nt := 55) (rs := pc73_r) (c := pc73_c56) (L := [(0, qs a0)]) (M := []) (k := 0) rfl rfl rfl rfl rfl rfl rfl ?_
  unfold F73
  refine Sim.sr 3 [(4, qj 0), (3, qj 0), (2, .one (li .u64 0))] [] (.scope (.sr 2 [(6, qj 0), (5, .one (li .u64 0))] [] (.seq (.label (.thenN (.seq (.st 1 [(9, qs a0)] [] (.step ⟨some 10, POp.s2b 5 (Operand.tmp 9), none, []⟩ [(10, .one (vw (codI .u8) (bytesL a0)))] [] (by kernel_rfl) (pOp_eff (by kernel_rfl) (by kernel_rfl) (eff_s2b (s := a0) (by kernel_rfl))) (.rd 2 [(12, qj 0), (11, qj ((bytesL a0).length : Int))] [] (.thenN (.block (.loop (.pr [5, 6, 10, 11, 12] [] [] [(5, .one (li .u64 0)), (6, qj 0), (10, .one (vw (codI .u8) (bytesL a0))), (11, qj ((bytesL a0).length : Int)), (12, qj 0)] [] ?_)))))))))))))
  exact F73_l7_ok n a0 (n + 8) 0 0


-- 116: (*vedette/fields.reader).took
def F116_e : Reader → PV × List Ob := fun r => (.tup [], [.cells (Reader.cells r)])
def F116 (n : Nat) (a0 : Reader) (a1 : Int) (a2 : Int) : Option Reader :=
  some (Reader.mk a0.s (IntKind.wrap .i64 (a0.at_ + a1)) a2)
theorem F116_ok (n : Nat) (a0 : Reader) (a1 : Int) (a2 : Int) : ∀ r, F116 n a0 a1 a2 = some r → D 116 [.one (.ptr 1000000 0), .one (li .i64 a1), .one (li .i64 a2)] [.cells (Reader.cells a0)] = some (F116_e r) := by
  refine fn_to (D := D) (n := n + 8) (nt := 18) (rs := pc116_r) (c := pc116_c3) (L := [(0, qp 1000000 0), (1, qj a1), (2, qj a2)]) (M := [(1000000, some (.cells (Reader.cells a0)))]) (k := 1) rfl rfl rfl rfl rfl rfl rfl ?_
  unfold F116
  exact Sim.sr 9 [(13, qp 1000000 1), (12, qp 1000000 0), (11, qj (IntKind.wrap .i64 (a0.at_ + a1))), (10, qj a1), (9, qj a0.at_), (8, qp 1000000 1), (7, qp 1000000 0), (6, qp 1000000 0)] [(1000000, some (.cells [ls a0.s, lj (IntKind.wrap .i64 (a0.at_ + a1)), lj a0.e]))] (.region0 (.rd 5 [(17, qp 1000000 2), (16, qp 1000000 0), (15, qj a2), (14, qp 1000000 0)] [(1000000, some (.cells [ls a0.s, lj (IntKind.wrap .i64 (a0.at_ + a1)), lj a2]))] (.finN (by kernel_rfl))))


-- 104: (*vedette/fields.reader).number
def F104_e : (Int × Reader) → PV × List Ob := fun r => (.one (li .i64 r.1), [.cells (Reader.cells r.2)])
def F104 (n : Nat) (a0 : Reader) : Option (Int × Reader) :=
  if a0.e != 0 then
    some (0, a0)
  else
    if 0 ≤ (a0.at_ : Int) ∧ (a0.at_ : Int) ≤ (a0.s.size : Int) then
      (F73 n (a0.s.extract a0.at_.toNat a0.s.size)).bind fun (r1 : (Int × Int × Int)) =>
      (F116 n a0 r1.2.1 r1.2.2).bind fun (r2 : Reader) =>
      some (IntKind.wrap .i64 (imin r1.1 1000001), r2)
    else none
theorem F104_ok (n : Nat) (a0 : Reader) : ∀ r, F104 n a0 = some r → D 104 [.one (.ptr 1000000 0)] [.cells (Reader.cells a0)] = some (F104_e r) := by
  refine fn_to (D := D) (n := n + 8) (nt := 32) (rs := pc104_r) (c := pc104_c17) (L := [(0, qp 1000000 0)]) (M := [(1000000, some (.cells (Reader.cells a0)))]) (k := 1) rfl rfl rfl rfl rfl rfl rfl ?_
  unfold F104
  refine Sim.sr 1 [(2, qj 0)] [] (.seq (.sr 5 [(10, qb (a0.e != 0)), (9, qj a0.e), (8, qp 1000000 2), (7, qp 1000000 0), (6, qp 1000000 0)] [] (.cond (a0.e != 0) (by kernel_rfl) ?_ ?_)))
  · exact Sim.sr 1 [(2, qj 0)] [] (.ret (.thenR .fn))
  · refine Sim.skip (.thenN (.st 8 [(19, qj a0.at_), (18, qp 1000000 1), (17, qp 1000000 0), (16, qp 1000000 0), (15, qs a0.s), (14, qp 1000000 0), (13, qp 1000000 0), (12, qp 1000000 0)] [] (.guard (c := 0 ≤ (a0.at_ : Int) ∧ (a0.at_ : Int) ≤ (a0.s.size : Int)) ⟨some 20, POp.prim (Prim.slice 9 true false) [Operand.tmp 15, Operand.tmp 19], none, [(15, Hint.imm), (19, Hint.imm)]⟩ [(20, qs (a0.s.extract a0.at_.toNat a0.s.size))] [] (by kernel_rfl) (fun hc => pOp_eff (by kernel_rfl) (by kernel_rfl) (eff_prim (by kernel_rfl) (pr_cutL (s := a0.s) (k := .i64) (a := a0.at_) Try.underlying9 hc))) (.bind (og := F73 n (a0.s.extract a0.at_.toNat a0.s.size)) ⟨some 21, POp.call false [[]] 73 [Operand.tmp 20], none, [(20, Hint.imm)]⟩ (fun r1 => [(21, .tup [.one (li .u64 r1.1), qj r1.2.1, qj r1.2.2])]) (fun r1 => []) (by kernel_rfl) (fun r1 hr => pOp_eff (by kernel_rfl) (by kernel_rfl) (eff_call (ARGS := [qs (a0.s.extract a0.at_.toNat a0.s.size)]) (by kernel_rfl) (args_clean (by kernel_rfl) args_nil) (F73_ok n (a0.s.extract a0.at_.toNat a0.s.size) r1 hr) (by kernel_rfl))) (fun r1 => ?_)))))
    refine SimI.rd 7 [(5, qj r1.2.2), (4, qj r1.2.1), (3, .one (li .u64 r1.1)), (24, qj r1.2.2), (23, qj r1.2.1), (22, .one (li .u64 r1.1)), (11, .tup [.one (li .u64 r1.1), qj r1.2.1, qj r1.2.2])] [] (.thenN (.st 3 [(27, qj r1.2.2), (26, qj r1.2.1), (25, qp 1000000 0)] [] (.bind (og := F116 n a0 r1.2.1 r1.2.2) ⟨some 28, POp.call true [[], [], []] 116 [Operand.tmp 25, Operand.tmp 26, Operand.tmp 27], none, []⟩ (fun r2 => [(28, .tup [])]) (fun r2 => [(1000000, some (.cells (Reader.cells r2)))]) (by kernel_rfl) (fun r2 hr => pOp_eff (by kernel_rfl) (by kernel_rfl) (eff_callp (ARGS := [qp 1000000 0, qj r1.2.1, qj r1.2.2]) (ARGS' := [qp 1000000 0, qj r1.2.1, qj r1.2.2]) (ks := [1000000]) (os := [(Reader.cells a0)]) (os' := [(Reader.cells r2)]) (by kernel_rfl) (args_ptr (by kernel_rfl) (args_clean (by kernel_rfl) (args_clean (by kernel_rfl) args_nil))) rfl (by kernel_rfl) (F116_ok n a0 r1.2.1 r1.2.2 r2 hr) (by kernel_rfl) (by kernel_rfl))) (fun r2 => ?_))))
    exact SimI.dn (.thenN (.sr 4 [(2, qj (IntKind.wrap .i64 (imin r1.1 1000001))), (31, qj (IntKind.wrap .i64 (imin r1.1 1000001))), (30, .one (li .u64 (imin r1.1 1000001))), (29, .one (li .u64 r1.1))] [] (.ret .fn)))


-- 117: vedette/num.Texts
def F117_e : (ByteArray × Int × Int) → PV × List Ob := fun r => (.tup [.one (ls r.1), .one (li .i64 r.2.1), .one (li .i64 r.2.2)], [])
def F117 (n : Nat) (a0 : ByteArray) (a1 : Int) : Option (ByteArray × Int × Int) :=
  (F73 n a0).bind fun (r1 : (Int × Int × Int)) =>
  if r1.2.2 != 0 then
    some (ByteArray.empty, 0, r1.2.2)
  else
    if decide (IntKind.wrap .u64 (imax a1 0) < r1.1) then
      some (ByteArray.empty, 0, 13)
    else
      if decide (IntKind.wrap .u64 (IntKind.wrap .i64 ((a0.size : Int) - r1.2.1)) < r1.1) then
        some (ByteArray.empty, 0, 10)
      else
        if 0 ≤ (r1.2.1 : Int) ∧ (r1.2.1 : Int) ≤ IntKind.wrap .i64 (r1.2.1 + IntKind.wrap .i64 r1.1) ∧ IntKind.wrap .i64 (r1.2.1 + IntKind.wrap .i64 r1.1) ≤ (a0.size : Int) then
          some (a0.extract r1.2.1.toNat (IntKind.wrap .i64 (r1.2.1 + IntKind.wrap .i64 r1.1)).toNat, IntKind.wrap .i64 (r1.2.1 + IntKind.wrap .i64 r1.1), 0)
        else none
theorem F117_ok (n : Nat) (a0 : ByteArray) (a1 : Int) : ∀ r, F117 n a0 a1 = some r → D 117 [.one (ls a0), .one (li .i64 a1)] [] = some (F117_e r) := by
  refine fn_to (D := D) (n := n + 8) (nt := 44) (rs := pc117_r) (c := pc117_c30) (L := [(0, qs a0), (1, qj a1)]) (M := []) (k := 0) rfl rfl rfl rfl rfl rfl rfl ?_
  unfold F117
  refine Sim.sr 3 [(6, qj 0), (5, qj 0), (4, qs be)] [] (.st 1 [(12, qs a0)] [] (.cl 13 true [[]] 73 [Operand.tmp 12] none (fun r1 => .tup [.one (li .u64 r1.1), qj r1.2.1, qj r1.2.2]) [qs a0] (F73_ok n a0) (fun r1 => ?_)))
  refine SimI.rd 7 [(9, qj r1.2.2), (8, qj r1.2.1), (7, .one (li .u64 r1.1)), (16, qj r1.2.2), (15, qj r1.2.1), (14, .one (li .u64 r1.1)), (11, .tup [.one (li .u64 r1.1), qj r1.2.1, qj r1.2.2])] [] (.thenN (.seq (.block (.sr 3 [(17, qb (r1.2.2 != 0)), (19, qb (r1.2.2 != 0)), (18, qj r1.2.2)] [] (.cond (r1.2.2 != 0) (by kernel_rfl) ?_ ?_)))))
  · exact Sim.sr 4 [(6, qj r1.2.2), (5, qj 0), (4, qs be), (20, qj r1.2.2)] [] (.ret (.blockR (.thenR .fn)))
  · refine Sim.sr 6 [(21, qb (decide (IntKind.wrap .u64 (imax a1 0) < r1.1))), (26, qb (decide (IntKind.wrap .u64 (imax a1 0) < r1.1))), (25, .one (li .u64 (IntKind.wrap .u64 (imax a1 0)))), (24, qj (imax a1 0)), (23, qj a1), (22, .one (li .u64 r1.1))] [] (.cond (decide (IntKind.wrap .u64 (imax a1 0) < r1.1)) (by kernel_rfl) ?_ ?_)
    · exact Sim.sr 3 [(6, qj 13), (5, qj 0), (4, qs be)] [] (.ret (.blockR (.thenR .fn)))
    · refine Sim.sr 8 [(27, qb (decide (IntKind.wrap .u64 (IntKind.wrap .i64 ((a0.size : Int) - r1.2.1)) < r1.1))), (34, qb (decide (IntKind.wrap .u64 (IntKind.wrap .i64 ((a0.size : Int) - r1.2.1)) < r1.1))), (33, .one (li .u64 (IntKind.wrap .u64 (IntKind.wrap .i64 ((a0.size : Int) - r1.2.1))))), (32, qj (IntKind.wrap .i64 ((a0.size : Int) - r1.2.1))), (31, qj r1.2.1), (30, qj (a0.size : Int)), (29, qs a0), (28, .one (li .u64 r1.1))] [] (.cond (decide (IntKind.wrap .u64 (IntKind.wrap .i64 ((a0.size : Int) - r1.2.1)) < r1.1)) (by kernel_rfl) ?_ ?_)
      · exact Sim.sr 3 [(6, qj 10), (5, qj 0), (4, qs be)] [] (.ret (.blockR (.thenR .fn)))
      · exact Sim.skip (.blockN (.thenN (.sr 5 [(10, qj (IntKind.wrap .i64 (r1.2.1 + IntKind.wrap .i64 r1.1))), (38, qj (IntKind.wrap .i64 (r1.2.1 + IntKind.wrap .i64 r1.1))), (37, qj (IntKind.wrap .i64 r1.1)), (36, .one (li .u64 r1.1)), (35, qj r1.2.1)] [] (.st 3 [(41, qj (IntKind.wrap .i64 (r1.2.1 + IntKind.wrap .i64 r1.1))), (40, qj r1.2.1), (39, qs a0)] [] (.guard (c := 0 ≤ (r1.2.1 : Int) ∧ (r1.2.1 : Int) ≤ IntKind.wrap .i64 (r1.2.1 + IntKind.wrap .i64 r1.1) ∧ IntKind.wrap .i64 (r1.2.1 + IntKind.wrap .i64 r1.1) ≤ (a0.size : Int)) ⟨some 42, POp.prim (Prim.slice 9 true true) [Operand.tmp 39, Operand.tmp 40, Operand.tmp 41], none, []⟩ [(42, qs (a0.extract r1.2.1.toNat (IntKind.wrap .i64 (r1.2.1 + IntKind.wrap .i64 r1.1)).toNat))] [] (by kernel_rfl) (fun hc => pOp_eff (by kernel_rfl) (by kernel_rfl) (eff_prim (by kernel_rfl) (pr_cutS (s := a0) (k := .i64) (l := .i64) (a := r1.2.1) (b := IntKind.wrap .i64 (r1.2.1 + IntKind.wrap .i64 r1.1)) Try.underlying9 hc))) (.rd 4 [(6, qj 0), (5, qj (IntKind.wrap .i64 (r1.2.1 + IntKind.wrap .i64 r1.1))), (4, qs (a0.extract r1.2.1.toNat (IntKind.wrap .i64 (r1.2.1 + IntKind.wrap .i64 r1.1)).toNat)), (43, qj (IntKind.wrap .i64 (r1.2.1 + IntKind.wrap .i64 r1.1)))] [] (.thenN (.ret .fn))))))))


-- 121: vedette/num.Zag
def F121_e : Int → PV × List Ob := fun r => (.one (li .i64 r), [])
def F121 (n : Nat) (a0 : Int) : Option Int :=
  some (bitsI .xor .i64 (IntKind.wrap .i64 (shrI .u64 a0 1)) (IntKind.wrap .i64 (0 - (IntKind.wrap .i64 (bitsI .and .u64 a0 1)))))
theorem F121_ok (n : Nat) (a0 : Int) : ∀ r, F121 n a0 = some r → D 121 [.one (li .u64 a0)] [] = some (F121_e r) := by
  refine fn_to (D := D) (n := n + 8) (nt := 11) (rs := pc121_r) (c := pc121_c5) (L := [(0, .one (li .u64 a0))]) (M := []) (k := 0) rfl rfl rfl rfl rfl rfl rfl ?_
  unfold F121
  exact Sim.sr 1 [(2, qj 0)] [] (.sr 9 [(2, qj (bitsI .xor .i64 (IntKind.wrap .i64 (shrI .u64 a0 1)) (IntKind.wrap .i64 (0 - (IntKind.wrap .i64 (bitsI .and .u64 a0 1)))))), (10, qj (bitsI .xor .i64 (IntKind.wrap .i64 (shrI .u64 a0 1)) (IntKind.wrap .i64 (0 - (IntKind.wrap .i64 (bitsI .and .u64 a0 1)))))), (9, qj (IntKind.wrap .i64 (0 - (IntKind.wrap .i64 (bitsI .and .u64 a0 1))))), (8, qj (IntKind.wrap .i64 (bitsI .and .u64 a0 1))), (7, .one (li .u64 (bitsI .and .u64 a0 1))), (6, .one (li .u64 a0)), (5, qj (IntKind.wrap .i64 (shrI .u64 a0 1))), (4, .one (li .u64 (shrI .u64 a0 1))), (3, .one (li .u64 a0))] [] (.ret .fn))


-- 118: vedette/num.Ints
def F118_e : (Int × Int × Int) → PV × List Ob := fun r => (.tup [.one (li .i64 r.1), .one (li .i64 r.2.1), .one (li .i64 r.2.2)], [])
def F118 (n : Nat) (a0 : ByteArray) : Option (Int × Int × Int) :=
  (F73 n a0).bind fun (r1 : (Int × Int × Int)) =>
  (F121 n r1.1).bind fun (r2 : Int) =>
  some (r2, r1.2.1, r1.2.2)
theorem F118_ok (n : Nat) (a0 : ByteArray) : ∀ r, F118 n a0 = some r → D 118 [.one (ls a0)] [] = some (F118_e r) := by
  refine fn_to (D := D) (n := n + 8) (nt := 18) (rs := pc118_r) (c := pc118_c7) (L := [(0, qs a0)]) (M := []) (k := 0) rfl rfl rfl rfl rfl rfl rfl ?_
  unfold F118
  refine Sim.sr 3 [(4, qj 0), (3, qj 0), (2, qj 0)] [] (.st 1 [(9, qs a0)] [] (.cl 10 true [[]] 73 [Operand.tmp 9] none (fun r1 => .tup [.one (li .u64 r1.1), qj r1.2.1, qj r1.2.2]) [qs a0] (F73_ok n a0) (fun r1 => ?_)))
  refine SimI.rd 7 [(7, qj r1.2.2), (6, qj r1.2.1), (5, .one (li .u64 r1.1)), (13, qj r1.2.2), (12, qj r1.2.1), (11, .one (li .u64 r1.1)), (8, .tup [.one (li .u64 r1.1), qj r1.2.1, qj r1.2.2])] [] (.thenN (.st 1 [(14, .one (li .u64 r1.1))] [] (.cl 15 true [[]] 121 [Operand.tmp 14] none (fun r2 => qj r2) [.one (li .u64 r1.1)] (F121_ok n r1.1) (fun r2 => ?_))))
  exact SimI.rd 5 [(4, qj r1.2.2), (3, qj r1.2.1), (2, qj r2), (17, qj r1.2.2), (16, qj r1.2.1)] [] (.thenN (.ret .fn))


-- 105: (*vedette/fields.reader).field
def F105_e : (Field × Reader) → PV × List Ob := fun r => (.agg [li .i64 r.1.N, ls r.1.Text], [.cells (Reader.cells r.2)])
def F105 (n : Nat) (a0 : Reader) : Option (Field × Reader) :=
  if a0.e != 0 then
    some ((Field.mk 0 ByteArray.empty), a0)
  else
    if 0 ≤ (a0.at_ : Int) ∧ (a0.at_ : Int) ≤ (a0.s.size : Int) then
      (F117 n (a0.s.extract a0.at_.toNat a0.s.size) 12).bind fun (r1 : (ByteArray × Int × Int)) =>
      (F116 n a0 r1.2.1 r1.2.2).bind fun (r2 : Reader) =>
      if r1.1.toList == ByteArray.empty.toList then
        if r1.2.2 == 0 then
          if 0 ≤ (r2.at_ : Int) ∧ (r2.at_ : Int) ≤ (r2.s.size : Int) then
            (F118 n (r2.s.extract r2.at_.toNat r2.s.size)).bind fun (r3 : (Int × Int × Int)) =>
            (F116 n r2 r3.2.1 r3.2.2).bind fun (r4 : Reader) =>
            some ((Field.mk r3.1 r1.1), r4)
          else none
        else
          some ((Field.mk 0 r1.1), r2)
      else
        some ((Field.mk 0 r1.1), r2)
    else none
theorem F105_ok (n : Nat) (a0 : Reader) : ∀ r, F105 n a0 = some r → D 105 [.one (.ptr 1000000 0)] [.cells (Reader.cells a0)] = some (F105_e r) := by
  refine fn_to (D := D) (n := n + 8) (nt := 63) (rs := pc105_r) (c := pc105_c31) (L := [(0, qp 1000000 0)]) (M := [(1000000, some (.cells (Reader.cells a0)))]) (k := 1) rfl rfl rfl rfl rfl rfl rfl ?_
  unfold F105
  refine Sim.sr 1 [(2, qp 2 0)] [(2, some (.cells [lj 0, ls be]))] (.sr 1 [(3, qp 3 0)] [(3, some (.cells [lj 0, ls be]))] (.seq (.sr 5 [(14, qb (a0.e != 0)), (13, qj a0.e), (12, qp 1000000 2), (11, qp 1000000 0), (10, qp 1000000 0)] [] (.cond (a0.e != 0) (by kernel_rfl) ?_ ?_))))
  · exact Sim.sr 2 [(15, .agg [lj 0, ls be])] [(2, some (.cells [lj 0, ls be]))] (.ret (.thenR .fn))
  · refine Sim.skip (.thenN (.st 8 [(24, qj a0.at_), (23, qp 1000000 1), (22, qp 1000000 0), (21, qp 1000000 0), (20, qs a0.s), (19, qp 1000000 0), (18, qp 1000000 0), (17, qp 1000000 0)] [] (.guard (c := 0 ≤ (a0.at_ : Int) ∧ (a0.at_ : Int) ≤ (a0.s.size : Int)) ⟨some 25, POp.prim (Prim.slice 9 true false) [Operand.tmp 20, Operand.tmp 24], none, [(20, Hint.imm), (24, Hint.imm)]⟩ [(25, qs (a0.s.extract a0.at_.toNat a0.s.size))] [] (by kernel_rfl) (fun hc => pOp_eff (by kernel_rfl) (by kernel_rfl) (eff_prim (by kernel_rfl) (pr_cutL (s := a0.s) (k := .i64) (a := a0.at_) Try.underlying9 hc))) (.bind (og := F117 n (a0.s.extract a0.at_.toNat a0.s.size) 12) ⟨some 26, POp.call false [[], []] 117 [Operand.tmp 25, Operand.const (Value.int IntKind.i64 12)], none, [(25, Hint.imm)]⟩ (fun r1 => [(26, .tup [qs r1.1, qj r1.2.1, qj r1.2.2])]) (fun r1 => []) (by kernel_rfl) (fun r1 hr => pOp_eff (by kernel_rfl) (by kernel_rfl) (eff_call (ARGS := [qs (a0.s.extract a0.at_.toNat a0.s.size), qj 12]) (by kernel_rfl) (args_clean (by kernel_rfl) (args_clean (by kernel_rfl) args_nil)) (F117_ok n (a0.s.extract a0.at_.toNat a0.s.size) 12 r1 hr) (by kernel_rfl))) (fun r1 => ?_)))))
    refine SimI.rd 7 [(6, qj r1.2.2), (5, qj r1.2.1), (4, qs r1.1), (29, qj r1.2.2), (28, qj r1.2.1), (27, qs r1.1), (16, .tup [qs r1.1, qj r1.2.1, qj r1.2.2])] [] (.thenN (.st 3 [(32, qj r1.2.2), (31, qj r1.2.1), (30, qp 1000000 0)] [] (.bind (og := F116 n a0 r1.2.1 r1.2.2) ⟨some 33, POp.call true [[], [], []] 116 [Operand.tmp 30, Operand.tmp 31, Operand.tmp 32], none, []⟩ (fun r2 => [(33, .tup [])]) (fun r2 => [(1000000, some (.cells (Reader.cells r2)))]) (by kernel_rfl) (fun r2 hr => pOp_eff (by kernel_rfl) (by kernel_rfl) (eff_callp (ARGS := [qp 1000000 0, qj r1.2.1, qj r1.2.2]) (ARGS' := [qp 1000000 0, qj r1.2.1, qj r1.2.2]) (ks := [1000000]) (os := [(Reader.cells a0)]) (os' := [(Reader.cells r2)]) (by kernel_rfl) (args_ptr (by kernel_rfl) (args_clean (by kernel_rfl) (args_clean (by kernel_rfl) args_nil))) rfl (by kernel_rfl) (F116_ok n a0 r1.2.1 r1.2.2 r2 hr) (by kernel_rfl) (by kernel_rfl))) (fun r2 => ?_))))
    refine SimI.dn (.thenN (.seq (.sr 3 [(35, qp 3 1), (34, qs r1.1)] [(3, some (.cells [lj 0, ls r1.1]))] (.st 3 [(38, qb (r1.1.toList == be.toList)), (37, qb (r1.1.toList == be.toList)), (36, qs r1.1)] [] (.split 38 (r1.1.toList == be.toList) (by kernel_rfl) ?_ ?_)))))
    · refine SimI.rd 3 [(41, qb (r1.2.2 == 0)), (40, qb (r1.2.2 == 0)), (39, qj r1.2.2)] [] (.thenN (.cond (r1.2.2 == 0) (by kernel_rfl) ?_ ?_))
      · refine Sim.st 8 [(50, qj r2.at_), (49, qp 1000000 1), (48, qp 1000000 0), (47, qp 1000000 0), (46, qs r2.s), (45, qp 1000000 0), (44, qp 1000000 0), (43, qp 1000000 0)] [] (.guard (c := 0 ≤ (r2.at_ : Int) ∧ (r2.at_ : Int) ≤ (r2.s.size : Int)) ⟨some 51, POp.prim (Prim.slice 9 true false) [Operand.tmp 46, Operand.tmp 50], none, [(46, Hint.imm), (50, Hint.imm)]⟩ [(51, qs (r2.s.extract r2.at_.toNat r2.s.size))] [] (by kernel_rfl) (fun hc => pOp_eff (by kernel_rfl) (by kernel_rfl) (eff_prim (by kernel_rfl) (pr_cutL (s := r2.s) (k := .i64) (a := r2.at_) Try.underlying9 hc))) (.bind (og := F118 n (r2.s.extract r2.at_.toNat r2.s.size)) ⟨some 52, POp.call false [[]] 118 [Operand.tmp 51], none, [(51, Hint.imm)]⟩ (fun r3 => [(52, .tup [qj r3.1, qj r3.2.1, qj r3.2.2])]) (fun r3 => []) (by kernel_rfl) (fun r3 hr => pOp_eff (by kernel_rfl) (by kernel_rfl) (eff_call (ARGS := [qs (r2.s.extract r2.at_.toNat r2.s.size)]) (by kernel_rfl) (args_clean (by kernel_rfl) args_nil) (F118_ok n (r2.s.extract r2.at_.toNat r2.s.size) r3 hr) (by kernel_rfl))) (fun r3 => ?_)))
        refine SimI.rd 7 [(9, qj r3.2.2), (8, qj r3.2.1), (7, qj r3.1), (55, qj r3.2.2), (54, qj r3.2.1), (53, qj r3.1), (42, .tup [qj r3.1, qj r3.2.1, qj r3.2.2])] [] (.thenN (.st 3 [(58, qj r3.2.2), (57, qj r3.2.1), (56, qp 1000000 0)] [] (.bind (og := F116 n r2 r3.2.1 r3.2.2) ⟨some 59, POp.call true [[], [], []] 116 [Operand.tmp 56, Operand.tmp 57, Operand.tmp 58], none, []⟩ (fun r4 => [(59, .tup [])]) (fun r4 => [(1000000, some (.cells (Reader.cells r4)))]) (by kernel_rfl) (fun r4 hr => pOp_eff (by kernel_rfl) (by kernel_rfl) (eff_callp (ARGS := [qp 1000000 0, qj r3.2.1, qj r3.2.2]) (ARGS' := [qp 1000000 0, qj r3.2.1, qj r3.2.2]) (ks := [1000000]) (os := [(Reader.cells r2)]) (os' := [(Reader.cells r4)]) (by kernel_rfl) (args_ptr (by kernel_rfl) (args_clean (by kernel_rfl) (args_clean (by kernel_rfl) args_nil))) rfl (by kernel_rfl) (F116_ok n r2 r3.2.1 r3.2.2 r4 hr) (by kernel_rfl) (by kernel_rfl))) (fun r4 => ?_))))
        exact SimI.dn (.thenN (.region0 (.rd 3 [(61, qp 3 0), (60, qj r3.1)] [(3, some (.cells [lj r3.1, ls r1.1]))] (.thenN (.sr 2 [(62, .agg [lj r3.1, ls r1.1])] [(2, some (.cells [lj r3.1, ls r1.1]))] (.ret .fn))))))
      · exact Sim.skip (.thenN (.sr 2 [(62, .agg [lj 0, ls r1.1])] [(2, some (.cells [lj 0, ls r1.1]))] (.ret .fn)))
    · exact SimI.rd 3 [(41, qb false), (40, .tup []), (39, .tup [])] [] (.thenN (.condF (by kernel_rfl) (.skip (.thenN (.sr 2 [(62, .agg [lj 0, ls r1.1])] [(2, some (.cells [lj 0, ls r1.1]))] (.ret .fn))))))


-- 71: vedette/fields.Read
def F71_e : (Delta × Int × Int) → PV × List Ob := fun r => (.tup [.agg (Delta.cells r.1), .one (li .i64 r.2.1), .one (li .i64 r.2.2)], [])
def F71_j39 (n : Nat) (r1 : (Int × Reader)) (r2 : (Int × Reader)) (r4 : (Int × Reader)) (r5 : (Int × Reader)) (g30 : Reader) (i31 : Int) (s32 : ByteArray) (i33 : Int) (s34 : ByteArray) (i35 : Int) (s36 : ByteArray) (i37 : Int) (s38 : ByteArray) : Option (Delta × Int × Int) :=
    if g30.e != 0 then
      some ((Delta.mk 0 0 (Point.mk 0 0) (A4.mk (Field.mk 0 ByteArray.empty) (Field.mk 0 ByteArray.empty) (Field.mk 0 ByteArray.empty) (Field.mk 0 ByteArray.empty))), 0, g30.e)
    else
      (F77 n (Delta.mk r1.1 (IntKind.wrap .u8 r2.1) (Point.mk r4.1 r5.1) (A4.mk (Field.mk i31 s32) (Field.mk i33 s34) (Field.mk i35 s36) (Field.mk i37 s38)))).bind fun (r40 : Bool) =>
      if !(r40) then
        some ((Delta.mk 0 0 (Point.mk 0 0) (A4.mk (Field.mk 0 ByteArray.empty) (Field.mk 0 ByteArray.empty) (Field.mk 0 ByteArray.empty) (Field.mk 0 ByteArray.empty))), 0, 11)
      else
        some ((Delta.mk r1.1 (IntKind.wrap .u8 r2.1) (Point.mk r4.1 r5.1) (A4.mk (Field.mk i31 s32) (Field.mk i33 s34) (Field.mk i35 s36) (Field.mk i37 s38))), g30.at_, 0)
theorem F71_j39_ok (n : Nat) (r1 : (Int × Reader)) (r2 : (Int × Reader)) (r4 : (Int × Reader)) (r5 : (Int × Reader)) (g30 : Reader) (i31 : Int) (s32 : ByteArray) (i33 : Int) (s34 : ByteArray) (i35 : Int) (s36 : ByteArray) (i37 : Int) (s38 : ByteArray) : Sim Try.prog D (n + 8) pc71_c65 [(2, qp 2 0), (5, qp 11 0), (6, qp 6 0)] [(2, some (.cells [lj 0, li .u8 0, lj 0, lj 0, lj 0, ls be, lj 0, ls be, lj 0, ls be, lj 0, ls be])), (6, some (.cells [lj r1.1, li .u8 (IntKind.wrap .u8 r2.1), lj r4.1, lj r5.1, lj i31, ls s32, lj i33, ls s34, lj i35, ls s36, lj i37, ls s38])), (11, some (.cells (Reader.cells g30)))] (F71_j39 n r1 r2 r4 r5 g30 i31 s32 i33 s34 i35 s36 i37 s38) (QF false pc71_r 0 F71_e) := by
    unfold F71_j39
    refine Sim.seq (.seq (.rg [(2, qp 2 0), (5, qp 11 0), (6, qp 6 0)] [(2, some (.cells [lj 0, li .u8 0, lj 0, lj 0, lj 0, ls be, lj 0, ls be, lj 0, ls be, lj 0, ls be])), (6, some (.cells [lj r1.1, li .u8 (IntKind.wrap .u8 r2.1), lj r4.1, lj r5.1, lj i31, ls s32, lj i33, ls s34, lj i35, ls s36, lj i37, ls s38])), (11, some (.cells (Reader.cells g30)))] (.rd 5 [(75, qb (g30.e != 0)), (74, qj g30.e), (73, qp 11 2), (72, qp 11 0), (71, qp 11 0)] [] (.thenN (.cond (g30.e != 0) (by kernel_rfl) ?_ ?_)))))
    · exact Sim.sr 8 [(4, qj g30.e), (3, qj 0), (80, qj g30.e), (79, qp 11 2), (78, qp 11 0), (77, qp 11 0), (76, .agg [lj 0, li .u8 0, lj 0, lj 0, lj 0, ls be, lj 0, ls be, lj 0, ls be, lj 0, ls be])] [(2, some (.cells [lj 0, li .u8 0, lj 0, lj 0, lj 0, ls be, lj 0, ls be, lj 0, ls be, lj 0, ls be]))] (.ret (.thenR .fn))
    · refine Sim.skip (.thenN (.seq (.st 1 [(81, .agg [lj r1.1, li .u8 (IntKind.wrap .u8 r2.1), lj r4.1, lj r5.1, lj i31, ls s32, lj i33, ls s34, lj i35, ls s36, lj i37, ls s38])] [] (.cl 82 true [[]] 77 [Operand.tmp 81] none (fun r40 => qb r40) [.agg [lj r1.1, li .u8 (IntKind.wrap .u8 r2.1), lj r4.1, lj r5.1, lj i31, ls s32, lj i33, ls s34, lj i35, ls s36, lj i37, ls s38]] (F77_ok n (Delta.mk r1.1 (IntKind.wrap .u8 r2.1) (Point.mk r4.1 r5.1) (A4.mk (Field.mk i31 s32) (Field.mk i33 s34) (Field.mk i35 s36) (Field.mk i37 s38)))) (fun r40 => ?_)))))
      refine SimI.rd 1 [(83, qb (!(r40)))] [] (.thenN (.cond (!(r40)) (by kernel_rfl) ?_ ?_))
      · exact Sim.sr 4 [(4, qj 11), (3, qj 0), (84, .agg [lj 0, li .u8 0, lj 0, lj 0, lj 0, ls be, lj 0, ls be, lj 0, ls be, lj 0, ls be])] [(2, some (.cells [lj 0, li .u8 0, lj 0, lj 0, lj 0, ls be, lj 0, ls be, lj 0, ls be, lj 0, ls be]))] (.ret (.thenR .fn))
      · exact Sim.skip (.thenN (.sr 8 [(4, qj 0), (3, qj g30.at_), (89, qj g30.at_), (88, qp 11 1), (87, qp 11 0), (86, qp 11 0), (85, .agg [lj r1.1, li .u8 (IntKind.wrap .u8 r2.1), lj r4.1, lj r5.1, lj i31, ls s32, lj i33, ls s34, lj i35, ls s36, lj i37, ls s38])] [(2, some (.cells [lj r1.1, li .u8 (IntKind.wrap .u8 r2.1), lj r4.1, lj r5.1, lj i31, ls s32, lj i33, ls s34, lj i35, ls s36, lj i37, ls s38]))] (.ret .fn)))

def F71_u29 (n : Nat) (r1 : (Int × Reader)) (r2 : (Int × Reader)) (r4 : (Int × Reader)) (r5 : (Int × Reader)) (i9 : Int) (s10 : ByteArray) (i15 : Int) (s16 : ByteArray) (i21 : Int) (s22 : ByteArray) (g26 : Reader) (i27 : Int) (s28 : ByteArray) : Option (Delta × Int × Int) :=
    F71_j39 n r1 r2 r4 r5 g26 i9 s10 i15 s16 i21 s22 i27 s28
theorem F71_u29_ok (n : Nat) (r1 : (Int × Reader)) (r2 : (Int × Reader)) (r4 : (Int × Reader)) (r5 : (Int × Reader)) (i9 : Int) (s10 : ByteArray) (i15 : Int) (s16 : ByteArray) (i21 : Int) (s22 : ByteArray) (g26 : Reader) (i27 : Int) (s28 : ByteArray) : SimL Try.prog D (n + 8) (n + 4) pc71_c43 [(2, qp 2 0), (5, qp 11 0), (6, qp 6 0), (51, qj 4)] [(2, some (.cells [lj 0, li .u8 0, lj 0, lj 0, lj 0, ls be, lj 0, ls be, lj 0, ls be, lj 0, ls be])), (6, some (.cells [lj r1.1, li .u8 (IntKind.wrap .u8 r2.1), lj r4.1, lj r5.1, lj i9, ls s10, lj i15, ls s16, lj i21, ls s22, lj i27, ls s28])), (11, some (.cells (Reader.cells g26)))] (F71_u29 n r1 r2 r4 r5 i9 s10 i15 s16 i21 s22 g26 i27 s28) (QB 0 (QT Try.prog D (n + 8) pc71_c65 (QF false pc71_r 0 F71_e))) := by
    unfold F71_u29
    refine SimL.succ (.seq (.rg [(2, qp 2 0), (5, qp 11 0), (6, qp 6 0), (51, qj 4)] [(2, some (.cells [lj 0, li .u8 0, lj 0, lj 0, lj 0, ls be, lj 0, ls be, lj 0, ls be, lj 0, ls be])), (6, some (.cells [lj r1.1, li .u8 (IntKind.wrap .u8 r2.1), lj r4.1, lj r5.1, lj i9, ls s10, lj i15, ls s16, lj i21, ls s22, lj i27, ls s28])), (11, some (.cells (Reader.cells g26)))] (.rd 1 [(52, qb false)] [] (.thenN (.seq (.condF (by kernel_rfl) (.exit (.thenX (.loopX (.blockX (.thenN (.pr [2, 5, 6] [2, 6, 11] [] [(2, qp 2 0), (5, qp 11 0), (6, qp 6 0)] [(2, some (.cells [lj 0, li .u8 0, lj 0, lj 0, lj 0, ls be, lj 0, ls be, lj 0, ls be, lj 0, ls be])), (6, some (.cells [lj r1.1, li .u8 (IntKind.wrap .u8 r2.1), lj r4.1, lj r5.1, lj i9, ls s10, lj i15, ls s16, lj i21, ls s22, lj i27, ls s28])), (11, some (.cells (Reader.cells g26)))] ?_))))))))))))
    exact F71_j39_ok n r1 r2 r4 r5 g26 i9 s10 i15 s16 i21 s22 i27 s28

def F71_u23 (n : Nat) (r1 : (Int × Reader)) (r2 : (Int × Reader)) (r4 : (Int × Reader)) (r5 : (Int × Reader)) (i9 : Int) (s10 : ByteArray) (i15 : Int) (s16 : ByteArray) (g20 : Reader) (i21 : Int) (s22 : ByteArray) : Option (Delta × Int × Int) :=
    if g20.e != 0 then
      F71_j39 n r1 r2 r4 r5 g20 i9 s10 i15 s16 i21 s22 0 ByteArray.empty
    else
      (F99 n (IntKind.wrap .u8 r2.1) 3).bind fun (r24 : Bool) =>
      if r24 then
        (F105 n g20).bind fun (r25 : (Field × Reader)) =>
        F71_u29 n r1 r2 r4 r5 i9 s10 i15 s16 i21 s22 r25.2 r25.1.N r25.1.Text
      else
        F71_u29 n r1 r2 r4 r5 i9 s10 i15 s16 i21 s22 g20 0 ByteArray.empty
theorem F71_u23_ok (n : Nat) (r1 : (Int × Reader)) (r2 : (Int × Reader)) (r4 : (Int × Reader)) (r5 : (Int × Reader)) (i9 : Int) (s10 : ByteArray) (i15 : Int) (s16 : ByteArray) (g20 : Reader) (i21 : Int) (s22 : ByteArray) : SimL Try.prog D (n + 8) (n + 5) pc71_c43 [(2, qp 2 0), (5, qp 11 0), (6, qp 6 0), (51, qj 3)] [(2, some (.cells [lj 0, li .u8 0, lj 0, lj 0, lj 0, ls be, lj 0, ls be, lj 0, ls be, lj 0, ls be])), (6, some (.cells [lj r1.1, li .u8 (IntKind.wrap .u8 r2.1), lj r4.1, lj r5.1, lj i9, ls s10, lj i15, ls s16, lj i21, ls s22, lj 0, ls be])), (11, some (.cells (Reader.cells g20)))] (F71_u23 n r1 r2 r4 r5 i9 s10 i15 s16 g20 i21 s22) (QB 0 (QT Try.prog D (n + 8) pc71_c65 (QF false pc71_r 0 F71_e))) := by
    unfold F71_u23
    refine SimL.succ (.seq (.rg [(2, qp 2 0), (5, qp 11 0), (6, qp 6 0), (51, qj 3)] [(2, some (.cells [lj 0, li .u8 0, lj 0, lj 0, lj 0, ls be, lj 0, ls be, lj 0, ls be, lj 0, ls be])), (6, some (.cells [lj r1.1, li .u8 (IntKind.wrap .u8 r2.1), lj r4.1, lj r5.1, lj i9, ls s10, lj i15, ls s16, lj i21, ls s22, lj 0, ls be])), (11, some (.cells (Reader.cells g20)))] (.rd 1 [(52, qb true)] [] (.thenN (.seq (.condT (by kernel_rfl) (.skip (.thenN (.seq (.block (.sr 2 [(8, qj 3), (53, qj 3)] [] (.block (.sr 6 [(54, qb (g20.e != 0)), (59, qb (g20.e != 0)), (58, qj g20.e), (57, qp 11 2), (56, qp 11 0), (55, qp 11 0)] [] (.cond (g20.e != 0) (by kernel_rfl) ?_ ?_))))))))))))))
    · refine Sim.exit (.blockY rfl (.blockY rfl (.thenX (.loopX (.blockX (.thenN (.pr [2, 5, 6] [2, 6, 11] [] [(2, qp 2 0), (5, qp 11 0), (6, qp 6 0)] [(2, some (.cells [lj 0, li .u8 0, lj 0, lj 0, lj 0, ls be, lj 0, ls be, lj 0, ls be, lj 0, ls be])), (6, some (.cells [lj r1.1, li .u8 (IntKind.wrap .u8 r2.1), lj r4.1, lj r5.1, lj i9, ls s10, lj i15, ls s16, lj i21, ls s22, lj 0, ls be])), (11, some (.cells (Reader.cells g20)))] ?_)))))))
      exact F71_j39_ok n r1 r2 r4 r5 g20 i9 s10 i15 s16 i21 s22 0 be
    · refine Sim.st 3 [(63, qj 3), (62, .one (li .u8 (IntKind.wrap .u8 r2.1))), (61, qp 6 1)] [] (.cl 64 true [[], []] 99 [Operand.tmp 62, Operand.tmp 63] none (fun r24 => qb r24) [.one (li .u8 (IntKind.wrap .u8 r2.1)), qj 3] (F99_ok n (IntKind.wrap .u8 r2.1) 3) (fun r24 => ?_))
      refine SimI.rd 1 [(60, qb r24)] [] (.thenN (.cond r24 (by kernel_rfl) ?_ ?_))
      · refine Sim.region0 (.rn 2 [(66, qp 11 0), (65, qj 3)] [] (.bind (og := F105 n g20) ⟨some 67, POp.call true [[]] 105 [Operand.tmp 66], none, []⟩ (fun r25 => [(67, .agg [lj r25.1.N, ls r25.1.Text])]) (fun r25 => [(11, some (.cells (Reader.cells r25.2)))]) (by kernel_rfl) (fun r25 hr => pOp_eff (by kernel_rfl) (by kernel_rfl) (eff_callp (ARGS := [qp 11 0]) (ARGS' := [qp 1000000 0]) (ks := [11]) (os := [(Reader.cells g20)]) (os' := [(Reader.cells r25.2)]) (by kernel_rfl) (args_ptr (by kernel_rfl) args_nil) rfl (by kernel_rfl) (F105_ok n g20 r25 hr) (by kernel_rfl) (by kernel_rfl))) (fun r25 => ?_)))
        refine SimI.rd 3 [(69, qp 6 10), (68, qp 6 4)] [(6, some (.cells [lj r1.1, li .u8 (IntKind.wrap .u8 r2.1), lj r4.1, lj r5.1, lj i9, ls s10, lj i15, ls s16, lj i21, ls s22, lj r25.1.N, ls r25.1.Text]))] (.blockN (.blockN (.thenN (.region0 (.rd 2 [(51, qj 4), (70, qj 4)] [] (.loopN (.pr [2, 5, 6, 51] [2, 6, 11] [] [(2, qp 2 0), (5, qp 11 0), (6, qp 6 0), (51, qj 4)] [(2, some (.cells [lj 0, li .u8 0, lj 0, lj 0, lj 0, ls be, lj 0, ls be, lj 0, ls be, lj 0, ls be])), (6, some (.cells [lj r1.1, li .u8 (IntKind.wrap .u8 r2.1), lj r4.1, lj r5.1, lj i9, ls s10, lj i15, ls s16, lj i21, ls s22, lj r25.1.N, ls r25.1.Text])), (11, some (.cells (Reader.cells r25.2)))] ?_)))))))
        exact F71_u29_ok n r1 r2 r4 r5 i9 s10 i15 s16 i21 s22 r25.2 r25.1.N r25.1.Text
      · refine Sim.skip (.blockN (.blockN (.thenN (.region0 (.rd 2 [(51, qj 4), (70, qj 4)] [] (.loopN (.pr [2, 5, 6, 51] [2, 6, 11] [] [(2, qp 2 0), (5, qp 11 0), (6, qp 6 0), (51, qj 4)] [(2, some (.cells [lj 0, li .u8 0, lj 0, lj 0, lj 0, ls be, lj 0, ls be, lj 0, ls be, lj 0, ls be])), (6, some (.cells [lj r1.1, li .u8 (IntKind.wrap .u8 r2.1), lj r4.1, lj r5.1, lj i9, ls s10, lj i15, ls s16, lj i21, ls s22, lj 0, ls be])), (11, some (.cells (Reader.cells g20)))] ?_)))))))
        exact F71_u29_ok n r1 r2 r4 r5 i9 s10 i15 s16 i21 s22 g20 0 be

def F71_u17 (n : Nat) (r1 : (Int × Reader)) (r2 : (Int × Reader)) (r4 : (Int × Reader)) (r5 : (Int × Reader)) (i9 : Int) (s10 : ByteArray) (g14 : Reader) (i15 : Int) (s16 : ByteArray) : Option (Delta × Int × Int) :=
    if g14.e != 0 then
      F71_j39 n r1 r2 r4 r5 g14 i9 s10 i15 s16 0 ByteArray.empty 0 ByteArray.empty
    else
      (F99 n (IntKind.wrap .u8 r2.1) 2).bind fun (r18 : Bool) =>
      if r18 then
        (F105 n g14).bind fun (r19 : (Field × Reader)) =>
        F71_u23 n r1 r2 r4 r5 i9 s10 i15 s16 r19.2 r19.1.N r19.1.Text
      else
        F71_u23 n r1 r2 r4 r5 i9 s10 i15 s16 g14 0 ByteArray.empty
theorem F71_u17_ok (n : Nat) (r1 : (Int × Reader)) (r2 : (Int × Reader)) (r4 : (Int × Reader)) (r5 : (Int × Reader)) (i9 : Int) (s10 : ByteArray) (g14 : Reader) (i15 : Int) (s16 : ByteArray) : SimL Try.prog D (n + 8) (n + 6) pc71_c43 [(2, qp 2 0), (5, qp 11 0), (6, qp 6 0), (51, qj 2)] [(2, some (.cells [lj 0, li .u8 0, lj 0, lj 0, lj 0, ls be, lj 0, ls be, lj 0, ls be, lj 0, ls be])), (6, some (.cells [lj r1.1, li .u8 (IntKind.wrap .u8 r2.1), lj r4.1, lj r5.1, lj i9, ls s10, lj i15, ls s16, lj 0, ls be, lj 0, ls be])), (11, some (.cells (Reader.cells g14)))] (F71_u17 n r1 r2 r4 r5 i9 s10 g14 i15 s16) (QB 0 (QT Try.prog D (n + 8) pc71_c65 (QF false pc71_r 0 F71_e))) := by
    unfold F71_u17
    refine SimL.succ (.seq (.rg [(2, qp 2 0), (5, qp 11 0), (6, qp 6 0), (51, qj 2)] [(2, some (.cells [lj 0, li .u8 0, lj 0, lj 0, lj 0, ls be, lj 0, ls be, lj 0, ls be, lj 0, ls be])), (6, some (.cells [lj r1.1, li .u8 (IntKind.wrap .u8 r2.1), lj r4.1, lj r5.1, lj i9, ls s10, lj i15, ls s16, lj 0, ls be, lj 0, ls be])), (11, some (.cells (Reader.cells g14)))] (.rd 1 [(52, qb true)] [] (.thenN (.seq (.condT (by kernel_rfl) (.skip (.thenN (.seq (.block (.sr 2 [(8, qj 2), (53, qj 2)] [] (.block (.sr 6 [(54, qb (g14.e != 0)), (59, qb (g14.e != 0)), (58, qj g14.e), (57, qp 11 2), (56, qp 11 0), (55, qp 11 0)] [] (.cond (g14.e != 0) (by kernel_rfl) ?_ ?_))))))))))))))
    · refine Sim.exit (.blockY rfl (.blockY rfl (.thenX (.loopX (.blockX (.thenN (.pr [2, 5, 6] [2, 6, 11] [] [(2, qp 2 0), (5, qp 11 0), (6, qp 6 0)] [(2, some (.cells [lj 0, li .u8 0, lj 0, lj 0, lj 0, ls be, lj 0, ls be, lj 0, ls be, lj 0, ls be])), (6, some (.cells [lj r1.1, li .u8 (IntKind.wrap .u8 r2.1), lj r4.1, lj r5.1, lj i9, ls s10, lj i15, ls s16, lj 0, ls be, lj 0, ls be])), (11, some (.cells (Reader.cells g14)))] ?_)))))))
      exact F71_j39_ok n r1 r2 r4 r5 g14 i9 s10 i15 s16 0 be 0 be
    · refine Sim.st 3 [(63, qj 2), (62, .one (li .u8 (IntKind.wrap .u8 r2.1))), (61, qp 6 1)] [] (.cl 64 true [[], []] 99 [Operand.tmp 62, Operand.tmp 63] none (fun r18 => qb r18) [.one (li .u8 (IntKind.wrap .u8 r2.1)), qj 2] (F99_ok n (IntKind.wrap .u8 r2.1) 2) (fun r18 => ?_))
      refine SimI.rd 1 [(60, qb r18)] [] (.thenN (.cond r18 (by kernel_rfl) ?_ ?_))
      · refine Sim.region0 (.rn 2 [(66, qp 11 0), (65, qj 2)] [] (.bind (og := F105 n g14) ⟨some 67, POp.call true [[]] 105 [Operand.tmp 66], none, []⟩ (fun r19 => [(67, .agg [lj r19.1.N, ls r19.1.Text])]) (fun r19 => [(11, some (.cells (Reader.cells r19.2)))]) (by kernel_rfl) (fun r19 hr => pOp_eff (by kernel_rfl) (by kernel_rfl) (eff_callp (ARGS := [qp 11 0]) (ARGS' := [qp 1000000 0]) (ks := [11]) (os := [(Reader.cells g14)]) (os' := [(Reader.cells r19.2)]) (by kernel_rfl) (args_ptr (by kernel_rfl) args_nil) rfl (by kernel_rfl) (F105_ok n g14 r19 hr) (by kernel_rfl) (by kernel_rfl))) (fun r19 => ?_)))
        refine SimI.rd 3 [(69, qp 6 8), (68, qp 6 4)] [(6, some (.cells [lj r1.1, li .u8 (IntKind.wrap .u8 r2.1), lj r4.1, lj r5.1, lj i9, ls s10, lj i15, ls s16, lj r19.1.N, ls r19.1.Text, lj 0, ls be]))] (.blockN (.blockN (.thenN (.region0 (.rd 2 [(51, qj 3), (70, qj 3)] [] (.loopN (.pr [2, 5, 6, 51] [2, 6, 11] [] [(2, qp 2 0), (5, qp 11 0), (6, qp 6 0), (51, qj 3)] [(2, some (.cells [lj 0, li .u8 0, lj 0, lj 0, lj 0, ls be, lj 0, ls be, lj 0, ls be, lj 0, ls be])), (6, some (.cells [lj r1.1, li .u8 (IntKind.wrap .u8 r2.1), lj r4.1, lj r5.1, lj i9, ls s10, lj i15, ls s16, lj r19.1.N, ls r19.1.Text, lj 0, ls be])), (11, some (.cells (Reader.cells r19.2)))] ?_)))))))
        exact F71_u23_ok n r1 r2 r4 r5 i9 s10 i15 s16 r19.2 r19.1.N r19.1.Text
      · refine Sim.skip (.blockN (.blockN (.thenN (.region0 (.rd 2 [(51, qj 3), (70, qj 3)] [] (.loopN (.pr [2, 5, 6, 51] [2, 6, 11] [] [(2, qp 2 0), (5, qp 11 0), (6, qp 6 0), (51, qj 3)] [(2, some (.cells [lj 0, li .u8 0, lj 0, lj 0, lj 0, ls be, lj 0, ls be, lj 0, ls be, lj 0, ls be])), (6, some (.cells [lj r1.1, li .u8 (IntKind.wrap .u8 r2.1), lj r4.1, lj r5.1, lj i9, ls s10, lj i15, ls s16, lj 0, ls be, lj 0, ls be])), (11, some (.cells (Reader.cells g14)))] ?_)))))))
        exact F71_u23_ok n r1 r2 r4 r5 i9 s10 i15 s16 g14 0 be

def F71_u11 (n : Nat) (r1 : (Int × Reader)) (r2 : (Int × Reader)) (r4 : (Int × Reader)) (r5 : (Int × Reader)) (g8 : Reader) (i9 : Int) (s10 : ByteArray) : Option (Delta × Int × Int) :=
    if g8.e != 0 then
      F71_j39 n r1 r2 r4 r5 g8 i9 s10 0 ByteArray.empty 0 ByteArray.empty 0 ByteArray.empty
    else
      (F99 n (IntKind.wrap .u8 r2.1) 1).bind fun (r12 : Bool) =>
      if r12 then
        (F105 n g8).bind fun (r13 : (Field × Reader)) =>
        F71_u17 n r1 r2 r4 r5 i9 s10 r13.2 r13.1.N r13.1.Text
      else
        F71_u17 n r1 r2 r4 r5 i9 s10 g8 0 ByteArray.empty
theorem F71_u11_ok (n : Nat) (r1 : (Int × Reader)) (r2 : (Int × Reader)) (r4 : (Int × Reader)) (r5 : (Int × Reader)) (g8 : Reader) (i9 : Int) (s10 : ByteArray) : SimL Try.prog D (n + 8) (n + 7) pc71_c43 [(2, qp 2 0), (5, qp 11 0), (6, qp 6 0), (51, qj 1)] [(2, some (.cells [lj 0, li .u8 0, lj 0, lj 0, lj 0, ls be, lj 0, ls be, lj 0, ls be, lj 0, ls be])), (6, some (.cells [lj r1.1, li .u8 (IntKind.wrap .u8 r2.1), lj r4.1, lj r5.1, lj i9, ls s10, lj 0, ls be, lj 0, ls be, lj 0, ls be])), (11, some (.cells (Reader.cells g8)))] (F71_u11 n r1 r2 r4 r5 g8 i9 s10) (QB 0 (QT Try.prog D (n + 8) pc71_c65 (QF false pc71_r 0 F71_e))) := by
    unfold F71_u11
    refine SimL.succ (.seq (.rg [(2, qp 2 0), (5, qp 11 0), (6, qp 6 0), (51, qj 1)] [(2, some (.cells [lj 0, li .u8 0, lj 0, lj 0, lj 0, ls be, lj 0, ls be, lj 0, ls be, lj 0, ls be])), (6, some (.cells [lj r1.1, li .u8 (IntKind.wrap .u8 r2.1), lj r4.1, lj r5.1, lj i9, ls s10, lj 0, ls be, lj 0, ls be, lj 0, ls be])), (11, some (.cells (Reader.cells g8)))] (.rd 1 [(52, qb true)] [] (.thenN (.seq (.condT (by kernel_rfl) (.skip (.thenN (.seq (.block (.sr 2 [(8, qj 1), (53, qj 1)] [] (.block (.sr 6 [(54, qb (g8.e != 0)), (59, qb (g8.e != 0)), (58, qj g8.e), (57, qp 11 2), (56, qp 11 0), (55, qp 11 0)] [] (.cond (g8.e != 0) (by kernel_rfl) ?_ ?_))))))))))))))
    · refine Sim.exit (.blockY rfl (.blockY rfl (.thenX (.loopX (.blockX (.thenN (.pr [2, 5, 6] [2, 6, 11] [] [(2, qp 2 0), (5, qp 11 0), (6, qp 6 0)] [(2, some (.cells [lj 0, li .u8 0, lj 0, lj 0, lj 0, ls be, lj 0, ls be, lj 0, ls be, lj 0, ls be])), (6, some (.cells [lj r1.1, li .u8 (IntKind.wrap .u8 r2.1), lj r4.1, lj r5.1, lj i9, ls s10, lj 0, ls be, lj 0, ls be, lj 0, ls be])), (11, some (.cells (Reader.cells g8)))] ?_)))))))
      exact F71_j39_ok n r1 r2 r4 r5 g8 i9 s10 0 be 0 be 0 be
    · refine Sim.st 3 [(63, qj 1), (62, .one (li .u8 (IntKind.wrap .u8 r2.1))), (61, qp 6 1)] [] (.cl 64 true [[], []] 99 [Operand.tmp 62, Operand.tmp 63] none (fun r12 => qb r12) [.one (li .u8 (IntKind.wrap .u8 r2.1)), qj 1] (F99_ok n (IntKind.wrap .u8 r2.1) 1) (fun r12 => ?_))
      refine SimI.rd 1 [(60, qb r12)] [] (.thenN (.cond r12 (by kernel_rfl) ?_ ?_))
      · refine Sim.region0 (.rn 2 [(66, qp 11 0), (65, qj 1)] [] (.bind (og := F105 n g8) ⟨some 67, POp.call true [[]] 105 [Operand.tmp 66], none, []⟩ (fun r13 => [(67, .agg [lj r13.1.N, ls r13.1.Text])]) (fun r13 => [(11, some (.cells (Reader.cells r13.2)))]) (by kernel_rfl) (fun r13 hr => pOp_eff (by kernel_rfl) (by kernel_rfl) (eff_callp (ARGS := [qp 11 0]) (ARGS' := [qp 1000000 0]) (ks := [11]) (os := [(Reader.cells g8)]) (os' := [(Reader.cells r13.2)]) (by kernel_rfl) (args_ptr (by kernel_rfl) args_nil) rfl (by kernel_rfl) (F105_ok n g8 r13 hr) (by kernel_rfl) (by kernel_rfl))) (fun r13 => ?_)))
        refine SimI.rd 3 [(69, qp 6 6), (68, qp 6 4)] [(6, some (.cells [lj r1.1, li .u8 (IntKind.wrap .u8 r2.1), lj r4.1, lj r5.1, lj i9, ls s10, lj r13.1.N, ls r13.1.Text, lj 0, ls be, lj 0, ls be]))] (.blockN (.blockN (.thenN (.region0 (.rd 2 [(51, qj 2), (70, qj 2)] [] (.loopN (.pr [2, 5, 6, 51] [2, 6, 11] [] [(2, qp 2 0), (5, qp 11 0), (6, qp 6 0), (51, qj 2)] [(2, some (.cells [lj 0, li .u8 0, lj 0, lj 0, lj 0, ls be, lj 0, ls be, lj 0, ls be, lj 0, ls be])), (6, some (.cells [lj r1.1, li .u8 (IntKind.wrap .u8 r2.1), lj r4.1, lj r5.1, lj i9, ls s10, lj r13.1.N, ls r13.1.Text, lj 0, ls be, lj 0, ls be])), (11, some (.cells (Reader.cells r13.2)))] ?_)))))))
        exact F71_u17_ok n r1 r2 r4 r5 i9 s10 r13.2 r13.1.N r13.1.Text
      · refine Sim.skip (.blockN (.blockN (.thenN (.region0 (.rd 2 [(51, qj 2), (70, qj 2)] [] (.loopN (.pr [2, 5, 6, 51] [2, 6, 11] [] [(2, qp 2 0), (5, qp 11 0), (6, qp 6 0), (51, qj 2)] [(2, some (.cells [lj 0, li .u8 0, lj 0, lj 0, lj 0, ls be, lj 0, ls be, lj 0, ls be, lj 0, ls be])), (6, some (.cells [lj r1.1, li .u8 (IntKind.wrap .u8 r2.1), lj r4.1, lj r5.1, lj i9, ls s10, lj 0, ls be, lj 0, ls be, lj 0, ls be])), (11, some (.cells (Reader.cells g8)))] ?_)))))))
        exact F71_u17_ok n r1 r2 r4 r5 i9 s10 g8 0 be

def F71_j74 (n : Nat) (r1 : (Int × Reader)) (r2 : (Int × Reader)) (g65 : Reader) (i66 : Int) (s67 : ByteArray) (i68 : Int) (s69 : ByteArray) (i70 : Int) (s71 : ByteArray) (i72 : Int) (s73 : ByteArray) : Option (Delta × Int × Int) :=
    if g65.e != 0 then
      some ((Delta.mk 0 0 (Point.mk 0 0) (A4.mk (Field.mk 0 ByteArray.empty) (Field.mk 0 ByteArray.empty) (Field.mk 0 ByteArray.empty) (Field.mk 0 ByteArray.empty))), 0, g65.e)
    else
      (F77 n (Delta.mk r1.1 (IntKind.wrap .u8 r2.1) (Point.mk 0 0) (A4.mk (Field.mk i66 s67) (Field.mk i68 s69) (Field.mk i70 s71) (Field.mk i72 s73)))).bind fun (r75 : Bool) =>
      if !(r75) then
        some ((Delta.mk 0 0 (Point.mk 0 0) (A4.mk (Field.mk 0 ByteArray.empty) (Field.mk 0 ByteArray.empty) (Field.mk 0 ByteArray.empty) (Field.mk 0 ByteArray.empty))), 0, 11)
      else
        some ((Delta.mk r1.1 (IntKind.wrap .u8 r2.1) (Point.mk 0 0) (A4.mk (Field.mk i66 s67) (Field.mk i68 s69) (Field.mk i70 s71) (Field.mk i72 s73))), g65.at_, 0)
theorem F71_j74_ok (n : Nat) (r1 : (Int × Reader)) (r2 : (Int × Reader)) (g65 : Reader) (i66 : Int) (s67 : ByteArray) (i68 : Int) (s69 : ByteArray) (i70 : Int) (s71 : ByteArray) (i72 : Int) (s73 : ByteArray) : Sim Try.prog D (n + 8) pc71_c65 [(2, qp 2 0), (5, qp 11 0), (6, qp 6 0)] [(2, some (.cells [lj 0, li .u8 0, lj 0, lj 0, lj 0, ls be, lj 0, ls be, lj 0, ls be, lj 0, ls be])), (6, some (.cells [lj r1.1, li .u8 (IntKind.wrap .u8 r2.1), lj 0, lj 0, lj i66, ls s67, lj i68, ls s69, lj i70, ls s71, lj i72, ls s73])), (11, some (.cells (Reader.cells g65)))] (F71_j74 n r1 r2 g65 i66 s67 i68 s69 i70 s71 i72 s73) (QF false pc71_r 0 F71_e) := by
    unfold F71_j74
    refine Sim.seq (.seq (.rg [(2, qp 2 0), (5, qp 11 0), (6, qp 6 0)] [(2, some (.cells [lj 0, li .u8 0, lj 0, lj 0, lj 0, ls be, lj 0, ls be, lj 0, ls be, lj 0, ls be])), (6, some (.cells [lj r1.1, li .u8 (IntKind.wrap .u8 r2.1), lj 0, lj 0, lj i66, ls s67, lj i68, ls s69, lj i70, ls s71, lj i72, ls s73])), (11, some (.cells (Reader.cells g65)))] (.rd 5 [(75, qb (g65.e != 0)), (74, qj g65.e), (73, qp 11 2), (72, qp 11 0), (71, qp 11 0)] [] (.thenN (.cond (g65.e != 0) (by kernel_rfl) ?_ ?_)))))
    · exact Sim.sr 8 [(4, qj g65.e), (3, qj 0), (80, qj g65.e), (79, qp 11 2), (78, qp 11 0), (77, qp 11 0), (76, .agg [lj 0, li .u8 0, lj 0, lj 0, lj 0, ls be, lj 0, ls be, lj 0, ls be, lj 0, ls be])] [(2, some (.cells [lj 0, li .u8 0, lj 0, lj 0, lj 0, ls be, lj 0, ls be, lj 0, ls be, lj 0, ls be]))] (.ret (.thenR .fn))
    · refine Sim.skip (.thenN (.seq (.st 1 [(81, .agg [lj r1.1, li .u8 (IntKind.wrap .u8 r2.1), lj 0, lj 0, lj i66, ls s67, lj i68, ls s69, lj i70, ls s71, lj i72, ls s73])] [] (.cl 82 true [[]] 77 [Operand.tmp 81] none (fun r75 => qb r75) [.agg [lj r1.1, li .u8 (IntKind.wrap .u8 r2.1), lj 0, lj 0, lj i66, ls s67, lj i68, ls s69, lj i70, ls s71, lj i72, ls s73]] (F77_ok n (Delta.mk r1.1 (IntKind.wrap .u8 r2.1) (Point.mk 0 0) (A4.mk (Field.mk i66 s67) (Field.mk i68 s69) (Field.mk i70 s71) (Field.mk i72 s73)))) (fun r75 => ?_)))))
      refine SimI.rd 1 [(83, qb (!(r75)))] [] (.thenN (.cond (!(r75)) (by kernel_rfl) ?_ ?_))
      · exact Sim.sr 4 [(4, qj 11), (3, qj 0), (84, .agg [lj 0, li .u8 0, lj 0, lj 0, lj 0, ls be, lj 0, ls be, lj 0, ls be, lj 0, ls be])] [(2, some (.cells [lj 0, li .u8 0, lj 0, lj 0, lj 0, ls be, lj 0, ls be, lj 0, ls be, lj 0, ls be]))] (.ret (.thenR .fn))
      · exact Sim.skip (.thenN (.sr 8 [(4, qj 0), (3, qj g65.at_), (89, qj g65.at_), (88, qp 11 1), (87, qp 11 0), (86, qp 11 0), (85, .agg [lj r1.1, li .u8 (IntKind.wrap .u8 r2.1), lj 0, lj 0, lj i66, ls s67, lj i68, ls s69, lj i70, ls s71, lj i72, ls s73])] [(2, some (.cells [lj r1.1, li .u8 (IntKind.wrap .u8 r2.1), lj 0, lj 0, lj i66, ls s67, lj i68, ls s69, lj i70, ls s71, lj i72, ls s73]))] (.ret .fn)))

def F71_u64 (n : Nat) (r1 : (Int × Reader)) (r2 : (Int × Reader)) (i44 : Int) (s45 : ByteArray) (i50 : Int) (s51 : ByteArray) (i56 : Int) (s57 : ByteArray) (g61 : Reader) (i62 : Int) (s63 : ByteArray) : Option (Delta × Int × Int) :=
    F71_j74 n r1 r2 g61 i44 s45 i50 s51 i56 s57 i62 s63
theorem F71_u64_ok (n : Nat) (r1 : (Int × Reader)) (r2 : (Int × Reader)) (i44 : Int) (s45 : ByteArray) (i50 : Int) (s51 : ByteArray) (i56 : Int) (s57 : ByteArray) (g61 : Reader) (i62 : Int) (s63 : ByteArray) : SimL Try.prog D (n + 8) (n + 4) pc71_c43 [(2, qp 2 0), (5, qp 11 0), (6, qp 6 0), (51, qj 4)] [(2, some (.cells [lj 0, li .u8 0, lj 0, lj 0, lj 0, ls be, lj 0, ls be, lj 0, ls be, lj 0, ls be])), (6, some (.cells [lj r1.1, li .u8 (IntKind.wrap .u8 r2.1), lj 0, lj 0, lj i44, ls s45, lj i50, ls s51, lj i56, ls s57, lj i62, ls s63])), (11, some (.cells (Reader.cells g61)))] (F71_u64 n r1 r2 i44 s45 i50 s51 i56 s57 g61 i62 s63) (QB 0 (QT Try.prog D (n + 8) pc71_c65 (QF false pc71_r 0 F71_e))) := by
    unfold F71_u64
    refine SimL.succ (.seq (.rg [(2, qp 2 0), (5, qp 11 0), (6, qp 6 0), (51, qj 4)] [(2, some (.cells [lj 0, li .u8 0, lj 0, lj 0, lj 0, ls be, lj 0, ls be, lj 0, ls be, lj 0, ls be])), (6, some (.cells [lj r1.1, li .u8 (IntKind.wrap .u8 r2.1), lj 0, lj 0, lj i44, ls s45, lj i50, ls s51, lj i56, ls s57, lj i62, ls s63])), (11, some (.cells (Reader.cells g61)))] (.rd 1 [(52, qb false)] [] (.thenN (.seq (.condF (by kernel_rfl) (.exit (.thenX (.loopX (.blockX (.thenN (.pr [2, 5, 6] [2, 6, 11] [] [(2, qp 2 0), (5, qp 11 0), (6, qp 6 0)] [(2, some (.cells [lj 0, li .u8 0, lj 0, lj 0, lj 0, ls be, lj 0, ls be, lj 0, ls be, lj 0, ls be])), (6, some (.cells [lj r1.1, li .u8 (IntKind.wrap .u8 r2.1), lj 0, lj 0, lj i44, ls s45, lj i50, ls s51, lj i56, ls s57, lj i62, ls s63])), (11, some (.cells (Reader.cells g61)))] ?_))))))))))))
    exact F71_j74_ok n r1 r2 g61 i44 s45 i50 s51 i56 s57 i62 s63

def F71_u58 (n : Nat) (r1 : (Int × Reader)) (r2 : (Int × Reader)) (i44 : Int) (s45 : ByteArray) (i50 : Int) (s51 : ByteArray) (g55 : Reader) (i56 : Int) (s57 : ByteArray) : Option (Delta × Int × Int) :=
    if g55.e != 0 then
      F71_j74 n r1 r2 g55 i44 s45 i50 s51 i56 s57 0 ByteArray.empty
    else
      (F99 n (IntKind.wrap .u8 r2.1) 3).bind fun (r59 : Bool) =>
      if r59 then
        (F105 n g55).bind fun (r60 : (Field × Reader)) =>
        F71_u64 n r1 r2 i44 s45 i50 s51 i56 s57 r60.2 r60.1.N r60.1.Text
      else
        F71_u64 n r1 r2 i44 s45 i50 s51 i56 s57 g55 0 ByteArray.empty
theorem F71_u58_ok (n : Nat) (r1 : (Int × Reader)) (r2 : (Int × Reader)) (i44 : Int) (s45 : ByteArray) (i50 : Int) (s51 : ByteArray) (g55 : Reader) (i56 : Int) (s57 : ByteArray) : SimL Try.prog D (n + 8) (n + 5) pc71_c43 [(2, qp 2 0), (5, qp 11 0), (6, qp 6 0), (51, qj 3)] [(2, some (.cells [lj 0, li .u8 0, lj 0, lj 0, lj 0, ls be, lj 0, ls be, lj 0, ls be, lj 0, ls be])), (6, some (.cells [lj r1.1, li .u8 (IntKind.wrap .u8 r2.1), lj 0, lj 0, lj i44, ls s45, lj i50, ls s51, lj i56, ls s57, lj 0, ls be])), (11, some (.cells (Reader.cells g55)))] (F71_u58 n r1 r2 i44 s45 i50 s51 g55 i56 s57) (QB 0 (QT Try.prog D (n + 8) pc71_c65 (QF false pc71_r 0 F71_e))) := by
    unfold F71_u58
    refine SimL.succ (.seq (.rg [(2, qp 2 0), (5, qp 11 0), (6, qp 6 0), (51, qj 3)] [(2, some (.cells [lj 0, li .u8 0, lj 0, lj 0, lj 0, ls be, lj 0, ls be, lj 0, ls be, lj 0, ls be])), (6, some (.cells [lj r1.1, li .u8 (IntKind.wrap .u8 r2.1), lj 0, lj 0, lj i44, ls s45, lj i50, ls s51, lj i56, ls s57, lj 0, ls be])), (11, some (.cells (Reader.cells g55)))] (.rd 1 [(52, qb true)] [] (.thenN (.seq (.condT (by kernel_rfl) (.skip (.thenN (.seq (.block (.sr 2 [(8, qj 3), (53, qj 3)] [] (.block (.sr 6 [(54, qb (g55.e != 0)), (59, qb (g55.e != 0)), (58, qj g55.e), (57, qp 11 2), (56, qp 11 0), (55, qp 11 0)] [] (.cond (g55.e != 0) (by kernel_rfl) ?_ ?_))))))))))))))
    · refine Sim.exit (.blockY rfl (.blockY rfl (.thenX (.loopX (.blockX (.thenN (.pr [2, 5, 6] [2, 6, 11] [] [(2, qp 2 0), (5, qp 11 0), (6, qp 6 0)] [(2, some (.cells [lj 0, li .u8 0, lj 0, lj 0, lj 0, ls be, lj 0, ls be, lj 0, ls be, lj 0, ls be])), (6, some (.cells [lj r1.1, li .u8 (IntKind.wrap .u8 r2.1), lj 0, lj 0, lj i44, ls s45, lj i50, ls s51, lj i56, ls s57, lj 0, ls be])), (11, some (.cells (Reader.cells g55)))] ?_)))))))
      exact F71_j74_ok n r1 r2 g55 i44 s45 i50 s51 i56 s57 0 be
    · refine Sim.st 3 [(63, qj 3), (62, .one (li .u8 (IntKind.wrap .u8 r2.1))), (61, qp 6 1)] [] (.cl 64 true [[], []] 99 [Operand.tmp 62, Operand.tmp 63] none (fun r59 => qb r59) [.one (li .u8 (IntKind.wrap .u8 r2.1)), qj 3] (F99_ok n (IntKind.wrap .u8 r2.1) 3) (fun r59 => ?_))
      refine SimI.rd 1 [(60, qb r59)] [] (.thenN (.cond r59 (by kernel_rfl) ?_ ?_))
      · refine Sim.region0 (.rn 2 [(66, qp 11 0), (65, qj 3)] [] (.bind (og := F105 n g55) ⟨some 67, POp.call true [[]] 105 [Operand.tmp 66], none, []⟩ (fun r60 => [(67, .agg [lj r60.1.N, ls r60.1.Text])]) (fun r60 => [(11, some (.cells (Reader.cells r60.2)))]) (by kernel_rfl) (fun r60 hr => pOp_eff (by kernel_rfl) (by kernel_rfl) (eff_callp (ARGS := [qp 11 0]) (ARGS' := [qp 1000000 0]) (ks := [11]) (os := [(Reader.cells g55)]) (os' := [(Reader.cells r60.2)]) (by kernel_rfl) (args_ptr (by kernel_rfl) args_nil) rfl (by kernel_rfl) (F105_ok n g55 r60 hr) (by kernel_rfl) (by kernel_rfl))) (fun r60 => ?_)))
        refine SimI.rd 3 [(69, qp 6 10), (68, qp 6 4)] [(6, some (.cells [lj r1.1, li .u8 (IntKind.wrap .u8 r2.1), lj 0, lj 0, lj i44, ls s45, lj i50, ls s51, lj i56, ls s57, lj r60.1.N, ls r60.1.Text]))] (.blockN (.blockN (.thenN (.region0 (.rd 2 [(51, qj 4), (70, qj 4)] [] (.loopN (.pr [2, 5, 6, 51] [2, 6, 11] [] [(2, qp 2 0), (5, qp 11 0), (6, qp 6 0), (51, qj 4)] [(2, some (.cells [lj 0, li .u8 0, lj 0, lj 0, lj 0, ls be, lj 0, ls be, lj 0, ls be, lj 0, ls be])), (6, some (.cells [lj r1.1, li .u8 (IntKind.wrap .u8 r2.1), lj 0, lj 0, lj i44, ls s45, lj i50, ls s51, lj i56, ls s57, lj r60.1.N, ls r60.1.Text])), (11, some (.cells (Reader.cells r60.2)))] ?_)))))))
        exact F71_u64_ok n r1 r2 i44 s45 i50 s51 i56 s57 r60.2 r60.1.N r60.1.Text
      · refine Sim.skip (.blockN (.blockN (.thenN (.region0 (.rd 2 [(51, qj 4), (70, qj 4)] [] (.loopN (.pr [2, 5, 6, 51] [2, 6, 11] [] [(2, qp 2 0), (5, qp 11 0), (6, qp 6 0), (51, qj 4)] [(2, some (.cells [lj 0, li .u8 0, lj 0, lj 0, lj 0, ls be, lj 0, ls be, lj 0, ls be, lj 0, ls be])), (6, some (.cells [lj r1.1, li .u8 (IntKind.wrap .u8 r2.1), lj 0, lj 0, lj i44, ls s45, lj i50, ls s51, lj i56, ls s57, lj 0, ls be])), (11, some (.cells (Reader.cells g55)))] ?_)))))))
        exact F71_u64_ok n r1 r2 i44 s45 i50 s51 i56 s57 g55 0 be

def F71_u52 (n : Nat) (r1 : (Int × Reader)) (r2 : (Int × Reader)) (i44 : Int) (s45 : ByteArray) (g49 : Reader) (i50 : Int) (s51 : ByteArray) : Option (Delta × Int × Int) :=
    if g49.e != 0 then
      F71_j74 n r1 r2 g49 i44 s45 i50 s51 0 ByteArray.empty 0 ByteArray.empty
    else
      (F99 n (IntKind.wrap .u8 r2.1) 2).bind fun (r53 : Bool) =>
      if r53 then
        (F105 n g49).bind fun (r54 : (Field × Reader)) =>
        F71_u58 n r1 r2 i44 s45 i50 s51 r54.2 r54.1.N r54.1.Text
      else
        F71_u58 n r1 r2 i44 s45 i50 s51 g49 0 ByteArray.empty
theorem F71_u52_ok (n : Nat) (r1 : (Int × Reader)) (r2 : (Int × Reader)) (i44 : Int) (s45 : ByteArray) (g49 : Reader) (i50 : Int) (s51 : ByteArray) : SimL Try.prog D (n + 8) (n + 6) pc71_c43 [(2, qp 2 0), (5, qp 11 0), (6, qp 6 0), (51, qj 2)] [(2, some (.cells [lj 0, li .u8 0, lj 0, lj 0, lj 0, ls be, lj 0, ls be, lj 0, ls be, lj 0, ls be])), (6, some (.cells [lj r1.1, li .u8 (IntKind.wrap .u8 r2.1), lj 0, lj 0, lj i44, ls s45, lj i50, ls s51, lj 0, ls be, lj 0, ls be])), (11, some (.cells (Reader.cells g49)))] (F71_u52 n r1 r2 i44 s45 g49 i50 s51) (QB 0 (QT Try.prog D (n + 8) pc71_c65 (QF false pc71_r 0 F71_e))) := by
    unfold F71_u52
    refine SimL.succ (.seq (.rg [(2, qp 2 0), (5, qp 11 0), (6, qp 6 0), (51, qj 2)] [(2, some (.cells [lj 0, li .u8 0, lj 0, lj 0, lj 0, ls be, lj 0, ls be, lj 0, ls be, lj 0, ls be])), (6, some (.cells [lj r1.1, li .u8 (IntKind.wrap .u8 r2.1), lj 0, lj 0, lj i44, ls s45, lj i50, ls s51, lj 0, ls be, lj 0, ls be])), (11, some (.cells (Reader.cells g49)))] (.rd 1 [(52, qb true)] [] (.thenN (.seq (.condT (by kernel_rfl) (.skip (.thenN (.seq (.block (.sr 2 [(8, qj 2), (53, qj 2)] [] (.block (.sr 6 [(54, qb (g49.e != 0)), (59, qb (g49.e != 0)), (58, qj g49.e), (57, qp 11 2), (56, qp 11 0), (55, qp 11 0)] [] (.cond (g49.e != 0) (by kernel_rfl) ?_ ?_))))))))))))))
    · refine Sim.exit (.blockY rfl (.blockY rfl (.thenX (.loopX (.blockX (.thenN (.pr [2, 5, 6] [2, 6, 11] [] [(2, qp 2 0), (5, qp 11 0), (6, qp 6 0)] [(2, some (.cells [lj 0, li .u8 0, lj 0, lj 0, lj 0, ls be, lj 0, ls be, lj 0, ls be, lj 0, ls be])), (6, some (.cells [lj r1.1, li .u8 (IntKind.wrap .u8 r2.1), lj 0, lj 0, lj i44, ls s45, lj i50, ls s51, lj 0, ls be, lj 0, ls be])), (11, some (.cells (Reader.cells g49)))] ?_)))))))
      exact F71_j74_ok n r1 r2 g49 i44 s45 i50 s51 0 be 0 be
    · refine Sim.st 3 [(63, qj 2), (62, .one (li .u8 (IntKind.wrap .u8 r2.1))), (61, qp 6 1)] [] (.cl 64 true [[], []] 99 [Operand.tmp 62, Operand.tmp 63] none (fun r53 => qb r53) [.one (li .u8 (IntKind.wrap .u8 r2.1)), qj 2] (F99_ok n (IntKind.wrap .u8 r2.1) 2) (fun r53 => ?_))
      refine SimI.rd 1 [(60, qb r53)] [] (.thenN (.cond r53 (by kernel_rfl) ?_ ?_))
      · refine Sim.region0 (.rn 2 [(66, qp 11 0), (65, qj 2)] [] (.bind (og := F105 n g49) ⟨some 67, POp.call true [[]] 105 [Operand.tmp 66], none, []⟩ (fun r54 => [(67, .agg [lj r54.1.N, ls r54.1.Text])]) (fun r54 => [(11, some (.cells (Reader.cells r54.2)))]) (by kernel_rfl) (fun r54 hr => pOp_eff (by kernel_rfl) (by kernel_rfl) (eff_callp (ARGS := [qp 11 0]) (ARGS' := [qp 1000000 0]) (ks := [11]) (os := [(Reader.cells g49)]) (os' := [(Reader.cells r54.2)]) (by kernel_rfl) (args_ptr (by kernel_rfl) args_nil) rfl (by kernel_rfl) (F105_ok n g49 r54 hr) (by kernel_rfl) (by kernel_rfl))) (fun r54 => ?_)))
        refine SimI.rd 3 [(69, qp 6 8), (68, qp 6 4)] [(6, some (.cells [lj r1.1, li .u8 (IntKind.wrap .u8 r2.1), lj 0, lj 0, lj i44, ls s45, lj i50, ls s51, lj r54.1.N, ls r54.1.Text, lj 0, ls be]))] (.blockN (.blockN (.thenN (.region0 (.rd 2 [(51, qj 3), (70, qj 3)] [] (.loopN (.pr [2, 5, 6, 51] [2, 6, 11] [] [(2, qp 2 0), (5, qp 11 0), (6, qp 6 0), (51, qj 3)] [(2, some (.cells [lj 0, li .u8 0, lj 0, lj 0, lj 0, ls be, lj 0, ls be, lj 0, ls be, lj 0, ls be])), (6, some (.cells [lj r1.1, li .u8 (IntKind.wrap .u8 r2.1), lj 0, lj 0, lj i44, ls s45, lj i50, ls s51, lj r54.1.N, ls r54.1.Text, lj 0, ls be])), (11, some (.cells (Reader.cells r54.2)))] ?_)))))))
        exact F71_u58_ok n r1 r2 i44 s45 i50 s51 r54.2 r54.1.N r54.1.Text
      · refine Sim.skip (.blockN (.blockN (.thenN (.region0 (.rd 2 [(51, qj 3), (70, qj 3)] [] (.loopN (.pr [2, 5, 6, 51] [2, 6, 11] [] [(2, qp 2 0), (5, qp 11 0), (6, qp 6 0), (51, qj 3)] [(2, some (.cells [lj 0, li .u8 0, lj 0, lj 0, lj 0, ls be, lj 0, ls be, lj 0, ls be, lj 0, ls be])), (6, some (.cells [lj r1.1, li .u8 (IntKind.wrap .u8 r2.1), lj 0, lj 0, lj i44, ls s45, lj i50, ls s51, lj 0, ls be, lj 0, ls be])), (11, some (.cells (Reader.cells g49)))] ?_)))))))
        exact F71_u58_ok n r1 r2 i44 s45 i50 s51 g49 0 be

def F71_u46 (n : Nat) (r1 : (Int × Reader)) (r2 : (Int × Reader)) (g43 : Reader) (i44 : Int) (s45 : ByteArray) : Option (Delta × Int × Int) :=
    if g43.e != 0 then
      F71_j74 n r1 r2 g43 i44 s45 0 ByteArray.empty 0 ByteArray.empty 0 ByteArray.empty
    else
      (F99 n (IntKind.wrap .u8 r2.1) 1).bind fun (r47 : Bool) =>
      if r47 then
        (F105 n g43).bind fun (r48 : (Field × Reader)) =>
        F71_u52 n r1 r2 i44 s45 r48.2 r48.1.N r48.1.Text
      else
        F71_u52 n r1 r2 i44 s45 g43 0 ByteArray.empty
theorem F71_u46_ok (n : Nat) (r1 : (Int × Reader)) (r2 : (Int × Reader)) (g43 : Reader) (i44 : Int) (s45 : ByteArray) : SimL Try.prog D (n + 8) (n + 7) pc71_c43 [(2, qp 2 0), (5, qp 11 0), (6, qp 6 0), (51, qj 1)] [(2, some (.cells [lj 0, li .u8 0, lj 0, lj 0, lj 0, ls be, lj 0, ls be, lj 0, ls be, lj 0, ls be])), (6, some (.cells [lj r1.1, li .u8 (IntKind.wrap .u8 r2.1), lj 0, lj 0, lj i44, ls s45, lj 0, ls be, lj 0, ls be, lj 0, ls be])), (11, some (.cells (Reader.cells g43)))] (F71_u46 n r1 r2 g43 i44 s45) (QB 0 (QT Try.prog D (n + 8) pc71_c65 (QF false pc71_r 0 F71_e))) := by
    unfold F71_u46
    refine SimL.succ (.seq (.rg [(2, qp 2 0), (5, qp 11 0), (6, qp 6 0), (51, qj 1)] [(2, some (.cells [lj 0, li .u8 0, lj 0, lj 0, lj 0, ls be, lj 0, ls be, lj 0, ls be, lj 0, ls be])), (6, some (.cells [lj r1.1, li .u8 (IntKind.wrap .u8 r2.1), lj 0, lj 0, lj i44, ls s45, lj 0, ls be, lj 0, ls be, lj 0, ls be])), (11, some (.cells (Reader.cells g43)))] (.rd 1 [(52, qb true)] [] (.thenN (.seq (.condT (by kernel_rfl) (.skip (.thenN (.seq (.block (.sr 2 [(8, qj 1), (53, qj 1)] [] (.block (.sr 6 [(54, qb (g43.e != 0)), (59, qb (g43.e != 0)), (58, qj g43.e), (57, qp 11 2), (56, qp 11 0), (55, qp 11 0)] [] (.cond (g43.e != 0) (by kernel_rfl) ?_ ?_))))))))))))))
    · refine Sim.exit (.blockY rfl (.blockY rfl (.thenX (.loopX (.blockX (.thenN (.pr [2, 5, 6] [2, 6, 11] [] [(2, qp 2 0), (5, qp 11 0), (6, qp 6 0)] [(2, some (.cells [lj 0, li .u8 0, lj 0, lj 0, lj 0, ls be, lj 0, ls be, lj 0, ls be, lj 0, ls be])), (6, some (.cells [lj r1.1, li .u8 (IntKind.wrap .u8 r2.1), lj 0, lj 0, lj i44, ls s45, lj 0, ls be, lj 0, ls be, lj 0, ls be])), (11, some (.cells (Reader.cells g43)))] ?_)))))))
      exact F71_j74_ok n r1 r2 g43 i44 s45 0 be 0 be 0 be
    · refine Sim.st 3 [(63, qj 1), (62, .one (li .u8 (IntKind.wrap .u8 r2.1))), (61, qp 6 1)] [] (.cl 64 true [[], []] 99 [Operand.tmp 62, Operand.tmp 63] none (fun r47 => qb r47) [.one (li .u8 (IntKind.wrap .u8 r2.1)), qj 1] (F99_ok n (IntKind.wrap .u8 r2.1) 1) (fun r47 => ?_))
      refine SimI.rd 1 [(60, qb r47)] [] (.thenN (.cond r47 (by kernel_rfl) ?_ ?_))
      · refine Sim.region0 (.rn 2 [(66, qp 11 0), (65, qj 1)] [] (.bind (og := F105 n g43) ⟨some 67, POp.call true [[]] 105 [Operand.tmp 66], none, []⟩ (fun r48 => [(67, .agg [lj r48.1.N, ls r48.1.Text])]) (fun r48 => [(11, some (.cells (Reader.cells r48.2)))]) (by kernel_rfl) (fun r48 hr => pOp_eff (by kernel_rfl) (by kernel_rfl) (eff_callp (ARGS := [qp 11 0]) (ARGS' := [qp 1000000 0]) (ks := [11]) (os := [(Reader.cells g43)]) (os' := [(Reader.cells r48.2)]) (by kernel_rfl) (args_ptr (by kernel_rfl) args_nil) rfl (by kernel_rfl) (F105_ok n g43 r48 hr) (by kernel_rfl) (by kernel_rfl))) (fun r48 => ?_)))
        refine SimI.rd 3 [(69, qp 6 6), (68, qp 6 4)] [(6, some (.cells [lj r1.1, li .u8 (IntKind.wrap .u8 r2.1), lj 0, lj 0, lj i44, ls s45, lj r48.1.N, ls r48.1.Text, lj 0, ls be, lj 0, ls be]))] (.blockN (.blockN (.thenN (.region0 (.rd 2 [(51, qj 2), (70, qj 2)] [] (.loopN (.pr [2, 5, 6, 51] [2, 6, 11] [] [(2, qp 2 0), (5, qp 11 0), (6, qp 6 0), (51, qj 2)] [(2, some (.cells [lj 0, li .u8 0, lj 0, lj 0, lj 0, ls be, lj 0, ls be, lj 0, ls be, lj 0, ls be])), (6, some (.cells [lj r1.1, li .u8 (IntKind.wrap .u8 r2.1), lj 0, lj 0, lj i44, ls s45, lj r48.1.N, ls r48.1.Text, lj 0, ls be, lj 0, ls be])), (11, some (.cells (Reader.cells r48.2)))] ?_)))))))
        exact F71_u52_ok n r1 r2 i44 s45 r48.2 r48.1.N r48.1.Text
      · refine Sim.skip (.blockN (.blockN (.thenN (.region0 (.rd 2 [(51, qj 2), (70, qj 2)] [] (.loopN (.pr [2, 5, 6, 51] [2, 6, 11] [] [(2, qp 2 0), (5, qp 11 0), (6, qp 6 0), (51, qj 2)] [(2, some (.cells [lj 0, li .u8 0, lj 0, lj 0, lj 0, ls be, lj 0, ls be, lj 0, ls be, lj 0, ls be])), (6, some (.cells [lj r1.1, li .u8 (IntKind.wrap .u8 r2.1), lj 0, lj 0, lj i44, ls s45, lj 0, ls be, lj 0, ls be, lj 0, ls be])), (11, some (.cells (Reader.cells g43)))] ?_)))))))
        exact F71_u52_ok n r1 r2 i44 s45 g43 0 be

def F71_j3 (n : Nat) (r1 : (Int × Reader)) (r2 : (Int × Reader)) : Option (Delta × Int × Int) :=
    if (bitsI .and .u8 (IntKind.wrap .u8 r2.1) 1) != 0 then
      (F104 n r2.2).bind fun (r4 : (Int × Reader)) =>
      (F104 n r4.2).bind fun (r5 : (Int × Reader)) =>
      if r5.2.e != 0 then
        F71_j39 n r1 r2 r4 r5 r5.2 0 ByteArray.empty 0 ByteArray.empty 0 ByteArray.empty 0 ByteArray.empty
      else
        (F99 n (IntKind.wrap .u8 r2.1) 0).bind fun (r6 : Bool) =>
        if r6 then
          (F105 n r5.2).bind fun (r7 : (Field × Reader)) =>
          F71_u11 n r1 r2 r4 r5 r7.2 r7.1.N r7.1.Text
        else
          F71_u11 n r1 r2 r4 r5 r5.2 0 ByteArray.empty
    else
      if r2.2.e != 0 then
        F71_j74 n r1 r2 r2.2 0 ByteArray.empty 0 ByteArray.empty 0 ByteArray.empty 0 ByteArray.empty
      else
        (F99 n (IntKind.wrap .u8 r2.1) 0).bind fun (r41 : Bool) =>
        if r41 then
          (F105 n r2.2).bind fun (r42 : (Field × Reader)) =>
          F71_u46 n r1 r2 r42.2 r42.1.N r42.1.Text
        else
          F71_u46 n r1 r2 r2.2 0 ByteArray.empty
theorem F71_j3_ok (n : Nat) (r1 : (Int × Reader)) (r2 : (Int × Reader)) : Sim Try.prog D (n + 8) pc71_c68 [(2, qp 2 0), (5, qp 11 0), (6, qp 6 0), (7, qj r2.1)] [(2, some (.cells [lj 0, li .u8 0, lj 0, lj 0, lj 0, ls be, lj 0, ls be, lj 0, ls be, lj 0, ls be])), (6, some (.cells [lj r1.1, li .u8 0, lj 0, lj 0, lj 0, ls be, lj 0, ls be, lj 0, ls be, lj 0, ls be])), (11, some (.cells (Reader.cells r2.2)))] (F71_j3 n r1 r2) (QF false pc71_r 0 F71_e) := by
    unfold F71_j3
    refine Sim.seq (.seq (.rg [(2, qp 2 0), (5, qp 11 0), (6, qp 6 0), (7, qj r2.1)] [(2, some (.cells [lj 0, li .u8 0, lj 0, lj 0, lj 0, ls be, lj 0, ls be, lj 0, ls be, lj 0, ls be])), (6, some (.cells [lj r1.1, li .u8 0, lj 0, lj 0, lj 0, ls be, lj 0, ls be, lj 0, ls be, lj 0, ls be])), (11, some (.cells (Reader.cells r2.2)))] (.rd 4 [(38, qp 6 1), (37, .one (li .u8 (IntKind.wrap .u8 r2.1))), (36, qj r2.1)] [(6, some (.cells [lj r1.1, li .u8 (IntKind.wrap .u8 r2.1), lj 0, lj 0, lj 0, ls be, lj 0, ls be, lj 0, ls be, lj 0, ls be]))] (.thenN (.sr 4 [(42, qb ((bitsI .and .u8 (IntKind.wrap .u8 r2.1) 1) != 0)), (41, .one (li .u8 (bitsI .and .u8 (IntKind.wrap .u8 r2.1) 1))), (40, .one (li .u8 (IntKind.wrap .u8 r2.1))), (39, qp 6 1)] [] (.cond ((bitsI .and .u8 (IntKind.wrap .u8 r2.1) 1) != 0) (by kernel_rfl) ?_ ?_))))))
    · refine Sim.st 1 [(43, qp 11 0)] [] (.bind (og := F104 n r2.2) ⟨some 44, POp.call true [[]] 104 [Operand.tmp 43], none, []⟩ (fun r4 => [(44, qj r4.1)]) (fun r4 => [(11, some (.cells (Reader.cells r4.2)))]) (by kernel_rfl) (fun r4 hr => pOp_eff (by kernel_rfl) (by kernel_rfl) (eff_callp (ARGS := [qp 11 0]) (ARGS' := [qp 1000000 0]) (ks := [11]) (os := [(Reader.cells r2.2)]) (os' := [(Reader.cells r4.2)]) (by kernel_rfl) (args_ptr (by kernel_rfl) args_nil) rfl (by kernel_rfl) (F104_ok n r2.2 r4 hr) (by kernel_rfl) (by kernel_rfl))) (fun r4 => ?_))
      refine SimI.rd 3 [(46, qp 6 2), (45, qp 6 2)] [(6, some (.cells [lj r1.1, li .u8 (IntKind.wrap .u8 r2.1), lj r4.1, lj 0, lj 0, ls be, lj 0, ls be, lj 0, ls be, lj 0, ls be]))] (.thenN (.region0 (.rn 1 [(47, qp 11 0)] [] (.bind (og := F104 n r4.2) ⟨some 48, POp.call true [[]] 104 [Operand.tmp 47], none, []⟩ (fun r5 => [(48, qj r5.1)]) (fun r5 => [(11, some (.cells (Reader.cells r5.2)))]) (by kernel_rfl) (fun r5 hr => pOp_eff (by kernel_rfl) (by kernel_rfl) (eff_callp (ARGS := [qp 11 0]) (ARGS' := [qp 1000000 0]) (ks := [11]) (os := [(Reader.cells r4.2)]) (os' := [(Reader.cells r5.2)]) (by kernel_rfl) (args_ptr (by kernel_rfl) args_nil) rfl (by kernel_rfl) (F104_ok n r4.2 r5 hr) (by kernel_rfl) (by kernel_rfl))) (fun r5 => ?_)))))
      refine SimI.rd 3 [(50, qp 6 3), (49, qp 6 2)] [(6, some (.cells [lj r1.1, li .u8 (IntKind.wrap .u8 r2.1), lj r4.1, lj r5.1, lj 0, ls be, lj 0, ls be, lj 0, ls be, lj 0, ls be]))] (.thenN (.seq (.label (.thenN (.seq (.sr 1 [(51, qj 0)] [] (.block (.loop (.succ (.seq (.rg [(2, qp 2 0), (5, qp 11 0), (6, qp 6 0), (51, qj 0)] [(2, some (.cells [lj 0, li .u8 0, lj 0, lj 0, lj 0, ls be, lj 0, ls be, lj 0, ls be, lj 0, ls be])), (6, some (.cells [lj r1.1, li .u8 (IntKind.wrap .u8 r2.1), lj r4.1, lj r5.1, lj 0, ls be, lj 0, ls be, lj 0, ls be, lj 0, ls be])), (11, some (.cells (Reader.cells r5.2)))] (.rd 1 [(52, qb true)] [] (.thenN (.seq (.condT (by kernel_rfl) (.skip (.thenN (.seq (.block (.sr 2 [(8, qj 0), (53, qj 0)] [] (.block (.sr 6 [(54, qb (r5.2.e != 0)), (59, qb (r5.2.e != 0)), (58, qj r5.2.e), (57, qp 11 2), (56, qp 11 0), (55, qp 11 0)] [] (.cond (r5.2.e != 0) (by kernel_rfl) ?_ ?_)))))))))))))))))))))))
      · refine Sim.exit (.blockY rfl (.blockY rfl (.thenX (.loopX (.blockX (.thenN (.pr [2, 5, 6] [2, 6, 11] [] [(2, qp 2 0), (5, qp 11 0), (6, qp 6 0)] [(2, some (.cells [lj 0, li .u8 0, lj 0, lj 0, lj 0, ls be, lj 0, ls be, lj 0, ls be, lj 0, ls be])), (6, some (.cells [lj r1.1, li .u8 (IntKind.wrap .u8 r2.1), lj r4.1, lj r5.1, lj 0, ls be, lj 0, ls be, lj 0, ls be, lj 0, ls be])), (11, some (.cells (Reader.cells r5.2)))] ?_)))))))
        exact F71_j39_ok n r1 r2 r4 r5 r5.2 0 be 0 be 0 be 0 be
      · refine Sim.st 3 [(63, qj 0), (62, .one (li .u8 (IntKind.wrap .u8 r2.1))), (61, qp 6 1)] [] (.cl 64 true [[], []] 99 [Operand.tmp 62, Operand.tmp 63] none (fun r6 => qb r6) [.one (li .u8 (IntKind.wrap .u8 r2.1)), qj 0] (F99_ok n (IntKind.wrap .u8 r2.1) 0) (fun r6 => ?_))
        refine SimI.rd 1 [(60, qb r6)] [] (.thenN (.cond r6 (by kernel_rfl) ?_ ?_))
        · refine Sim.region0 (.rn 2 [(66, qp 11 0), (65, qj 0)] [] (.bind (og := F105 n r5.2) ⟨some 67, POp.call true [[]] 105 [Operand.tmp 66], none, []⟩ (fun r7 => [(67, .agg [lj r7.1.N, ls r7.1.Text])]) (fun r7 => [(11, some (.cells (Reader.cells r7.2)))]) (by kernel_rfl) (fun r7 hr => pOp_eff (by kernel_rfl) (by kernel_rfl) (eff_callp (ARGS := [qp 11 0]) (ARGS' := [qp 1000000 0]) (ks := [11]) (os := [(Reader.cells r5.2)]) (os' := [(Reader.cells r7.2)]) (by kernel_rfl) (args_ptr (by kernel_rfl) args_nil) rfl (by kernel_rfl) (F105_ok n r5.2 r7 hr) (by kernel_rfl) (by kernel_rfl))) (fun r7 => ?_)))
          refine SimI.rd 3 [(69, qp 6 4), (68, qp 6 4)] [(6, some (.cells [lj r1.1, li .u8 (IntKind.wrap .u8 r2.1), lj r4.1, lj r5.1, lj r7.1.N, ls r7.1.Text, lj 0, ls be, lj 0, ls be, lj 0, ls be]))] (.blockN (.blockN (.thenN (.region0 (.rd 2 [(51, qj 1), (70, qj 1)] [] (.loopN (.pr [2, 5, 6, 51] [2, 6, 11] [] [(2, qp 2 0), (5, qp 11 0), (6, qp 6 0), (51, qj 1)] [(2, some (.cells [lj 0, li .u8 0, lj 0, lj 0, lj 0, ls be, lj 0, ls be, lj 0, ls be, lj 0, ls be])), (6, some (.cells [lj r1.1, li .u8 (IntKind.wrap .u8 r2.1), lj r4.1, lj r5.1, lj r7.1.N, ls r7.1.Text, lj 0, ls be, lj 0, ls be, lj 0, ls be])), (11, some (.cells (Reader.cells r7.2)))] ?_)))))))
          exact F71_u11_ok n r1 r2 r4 r5 r7.2 r7.1.N r7.1.Text
        · refine Sim.skip (.blockN (.blockN (.thenN (.region0 (.rd 2 [(51, qj 1), (70, qj 1)] [] (.loopN (.pr [2, 5, 6, 51] [2, 6, 11] [] [(2, qp 2 0), (5, qp 11 0), (6, qp 6 0), (51, qj 1)] [(2, some (.cells [lj 0, li .u8 0, lj 0, lj 0, lj 0, ls be, lj 0, ls be, lj 0, ls be, lj 0, ls be])), (6, some (.cells [lj r1.1, li .u8 (IntKind.wrap .u8 r2.1), lj r4.1, lj r5.1, lj 0, ls be, lj 0, ls be, lj 0, ls be, lj 0, ls be])), (11, some (.cells (Reader.cells r5.2)))] ?_)))))))
          exact F71_u11_ok n r1 r2 r4 r5 r5.2 0 be
    · refine Sim.skip (.thenN (.seq (.label (.thenN (.seq (.sr 1 [(51, qj 0)] [] (.block (.loop (.succ (.seq (.rg [(2, qp 2 0), (5, qp 11 0), (6, qp 6 0), (51, qj 0)] [(2, some (.cells [lj 0, li .u8 0, lj 0, lj 0, lj 0, ls be, lj 0, ls be, lj 0, ls be, lj 0, ls be])), (6, some (.cells [lj r1.1, li .u8 (IntKind.wrap .u8 r2.1), lj 0, lj 0, lj 0, ls be, lj 0, ls be, lj 0, ls be, lj 0, ls be])), (11, some (.cells (Reader.cells r2.2)))] (.rd 1 [(52, qb true)] [] (.thenN (.seq (.condT (by kernel_rfl) (.skip (.thenN (.seq (.block (.sr 2 [(8, qj 0), (53, qj 0)] [] (.block (.sr 6 [(54, qb (r2.2.e != 0)), (59, qb (r2.2.e != 0)), (58, qj r2.2.e), (57, qp 11 2), (56, qp 11 0), (55, qp 11 0)] [] (.cond (r2.2.e != 0) (by kernel_rfl) ?_ ?_)))))))))))))))))))))))
      · refine Sim.exit (.blockY rfl (.blockY rfl (.thenX (.loopX (.blockX (.thenN (.pr [2, 5, 6] [2, 6, 11] [] [(2, qp 2 0), (5, qp 11 0), (6, qp 6 0)] [(2, some (.cells [lj 0, li .u8 0, lj 0, lj 0, lj 0, ls be, lj 0, ls be, lj 0, ls be, lj 0, ls be])), (6, some (.cells [lj r1.1, li .u8 (IntKind.wrap .u8 r2.1), lj 0, lj 0, lj 0, ls be, lj 0, ls be, lj 0, ls be, lj 0, ls be])), (11, some (.cells (Reader.cells r2.2)))] ?_)))))))
        exact F71_j74_ok n r1 r2 r2.2 0 be 0 be 0 be 0 be
      · refine Sim.st 3 [(63, qj 0), (62, .one (li .u8 (IntKind.wrap .u8 r2.1))), (61, qp 6 1)] [] (.cl 64 true [[], []] 99 [Operand.tmp 62, Operand.tmp 63] none (fun r41 => qb r41) [.one (li .u8 (IntKind.wrap .u8 r2.1)), qj 0] (F99_ok n (IntKind.wrap .u8 r2.1) 0) (fun r41 => ?_))
        refine SimI.rd 1 [(60, qb r41)] [] (.thenN (.cond r41 (by kernel_rfl) ?_ ?_))
        · refine Sim.region0 (.rn 2 [(66, qp 11 0), (65, qj 0)] [] (.bind (og := F105 n r2.2) ⟨some 67, POp.call true [[]] 105 [Operand.tmp 66], none, []⟩ (fun r42 => [(67, .agg [lj r42.1.N, ls r42.1.Text])]) (fun r42 => [(11, some (.cells (Reader.cells r42.2)))]) (by kernel_rfl) (fun r42 hr => pOp_eff (by kernel_rfl) (by kernel_rfl) (eff_callp (ARGS := [qp 11 0]) (ARGS' := [qp 1000000 0]) (ks := [11]) (os := [(Reader.cells r2.2)]) (os' := [(Reader.cells r42.2)]) (by kernel_rfl) (args_ptr (by kernel_rfl) args_nil) rfl (by kernel_rfl) (F105_ok n r2.2 r42 hr) (by kernel_rfl) (by kernel_rfl))) (fun r42 => ?_)))
          refine SimI.rd 3 [(69, qp 6 4), (68, qp 6 4)] [(6, some (.cells [lj r1.1, li .u8 (IntKind.wrap .u8 r2.1), lj 0, lj 0, lj r42.1.N, ls r42.1.Text, lj 0, ls be, lj 0, ls be, lj 0, ls be]))] (.blockN (.blockN (.thenN (.region0 (.rd 2 [(51, qj 1), (70, qj 1)] [] (.loopN (.pr [2, 5, 6, 51] [2, 6, 11] [] [(2, qp 2 0), (5, qp 11 0), (6, qp 6 0), (51, qj 1)] [(2, some (.cells [lj 0, li .u8 0, lj 0, lj 0, lj 0, ls be, lj 0, ls be, lj 0, ls be, lj 0, ls be])), (6, some (.cells [lj r1.1, li .u8 (IntKind.wrap .u8 r2.1), lj 0, lj 0, lj r42.1.N, ls r42.1.Text, lj 0, ls be, lj 0, ls be, lj 0, ls be])), (11, some (.cells (Reader.cells r42.2)))] ?_)))))))
          exact F71_u46_ok n r1 r2 r42.2 r42.1.N r42.1.Text
        · refine Sim.skip (.blockN (.blockN (.thenN (.region0 (.rd 2 [(51, qj 1), (70, qj 1)] [] (.loopN (.pr [2, 5, 6, 51] [2, 6, 11] [] [(2, qp 2 0), (5, qp 11 0), (6, qp 6 0), (51, qj 1)] [(2, some (.cells [lj 0, li .u8 0, lj 0, lj 0, lj 0, ls be, lj 0, ls be, lj 0, ls be, lj 0, ls be])), (6, some (.cells [lj r1.1, li .u8 (IntKind.wrap .u8 r2.1), lj 0, lj 0, lj 0, ls be, lj 0, ls be, lj 0, ls be, lj 0, ls be])), (11, some (.cells (Reader.cells r2.2)))] ?_)))))))
          exact F71_u46_ok n r1 r2 r2.2 0 be

def F71 (n : Nat) (a0 : ByteArray) : Option (Delta × Int × Int) :=
  (F104 n (Reader.mk a0 0 0)).bind fun (r1 : (Int × Reader)) =>
  (F104 n r1.2).bind fun (r2 : (Int × Reader)) =>
  if r2.2.e == 0 then
    if decide ((1000000 : Int) < r1.1) then
      some ((Delta.mk 0 0 (Point.mk 0 0) (A4.mk (Field.mk 0 ByteArray.empty) (Field.mk 0 ByteArray.empty) (Field.mk 0 ByteArray.empty) (Field.mk 0 ByteArray.empty))), 0, 11)
    else
      if r2.1 == 0 then
        some ((Delta.mk 0 0 (Point.mk 0 0) (A4.mk (Field.mk 0 ByteArray.empty) (Field.mk 0 ByteArray.empty) (Field.mk 0 ByteArray.empty) (Field.mk 0 ByteArray.empty))), 0, 11)
      else
        if decide ((31 : Int) < r2.1) then
          some ((Delta.mk 0 0 (Point.mk 0 0) (A4.mk (Field.mk 0 ByteArray.empty) (Field.mk 0 ByteArray.empty) (Field.mk 0 ByteArray.empty) (Field.mk 0 ByteArray.empty))), 0, 11)
        else
          F71_j3 n r1 r2
  else
    F71_j3 n r1 r2
theorem F71_ok (n : Nat) (a0 : ByteArray) : ∀ r, F71 n a0 = some r → D 71 [.one (ls a0)] [] = some (F71_e r) := by
  refine fn_to (D := D) (n := n + 8) (nt := 90) (rs := pc71_r) (c := pc71_c74) (L := [(0, qs a0)]) (M := []) (k := 0) rfl rfl rfl rfl rfl rfl rfl ?_
  unfold F71
  refine Sim.sr 3 [(4, qj 0), (3, qj 0), (2, qp 2 0)] [(2, some (.cells [lj 0, li .u8 0, lj 0, lj 0, lj 0, ls be, lj 0, ls be, lj 0, ls be, lj 0, ls be]))] (.scope (.sr 4 [(5, qp 11 0), (11, qp 11 0), (10, .agg [ls a0, lj 0, lj 0]), (9, qs a0)] [(11, some (.cells [ls a0, lj 0, lj 0]))] (.st 1 [(12, qp 11 0)] [] (.bind (og := F104 n (Reader.mk a0 0 0)) ⟨some 13, POp.call true [[]] 104 [Operand.tmp 12], none, []⟩ (fun r1 => [(13, qj r1.1)]) (fun r1 => [(11, some (.cells (Reader.cells r1.2)))]) (by kernel_rfl) (fun r1 hr => pOp_eff (by kernel_rfl) (by kernel_rfl) (eff_callp (ARGS := [qp 11 0]) (ARGS' := [qp 1000000 0]) (ks := [11]) (os := [[ls a0, lj 0, lj 0]]) (os' := [(Reader.cells r1.2)]) (by kernel_rfl) (args_ptr (by kernel_rfl) args_nil) rfl (by kernel_rfl) (F104_ok n (Reader.mk a0 0 0) r1 hr) (by kernel_rfl) (by kernel_rfl))) (fun r1 => ?_)))))
  refine SimI.rd 3 [(6, qp 6 0), (14, .agg [lj r1.1, li .u8 0, lj 0, lj 0, lj 0, ls be, lj 0, ls be, lj 0, ls be, lj 0, ls be])] [(6, some (.cells [lj r1.1, li .u8 0, lj 0, lj 0, lj 0, ls be, lj 0, ls be, lj 0, ls be, lj 0, ls be])), (6, some (.cells [lj 0, li .u8 0, lj 0, lj 0, lj 0, ls be, lj 0, ls be, lj 0, ls be, lj 0, ls be]))] (.thenN (.st 1 [(15, qp 11 0)] [] (.bind (og := F104 n r1.2) ⟨some 16, POp.call true [[]] 104 [Operand.tmp 15], none, []⟩ (fun r2 => [(16, qj r2.1)]) (fun r2 => [(11, some (.cells (Reader.cells r2.2)))]) (by kernel_rfl) (fun r2 hr => pOp_eff (by kernel_rfl) (by kernel_rfl) (eff_callp (ARGS := [qp 11 0]) (ARGS' := [qp 1000000 0]) (ks := [11]) (os := [(Reader.cells r1.2)]) (os' := [(Reader.cells r2.2)]) (by kernel_rfl) (args_ptr (by kernel_rfl) args_nil) rfl (by kernel_rfl) (F104_ok n r1.2 r2 hr) (by kernel_rfl) (by kernel_rfl))) (fun r2 => ?_))))
  refine SimI.rd 1 [(7, qj r2.1)] [] (.thenN (.seq (.st 6 [(22, qb (r2.2.e == 0)), (21, qb (r2.2.e == 0)), (20, qj r2.2.e), (19, qp 11 2), (18, qp 11 0), (17, qp 11 0)] [] (.split 22 (r2.2.e == 0) (by kernel_rfl) ?_ ?_))))
  · refine SimI.rn 4 [(26, qb (decide ((1000000 : Int) < r1.1))), (25, qb (decide ((1000000 : Int) < r1.1))), (24, qj r1.1), (23, qp 6 0)] [] (.split 26 (decide ((1000000 : Int) < r1.1)) (by kernel_rfl) ?_ ?_)
    · exact SimI.rd 8 [(34, qb true), (33, qb true), (32, .tup []), (31, .tup []), (30, qb true), (29, qb true), (28, .tup []), (27, .tup [])] [] (.thenN (.condT (by kernel_rfl) (.sr 4 [(4, qj 11), (3, qj 0), (35, .agg [lj 0, li .u8 0, lj 0, lj 0, lj 0, ls be, lj 0, ls be, lj 0, ls be, lj 0, ls be])] [(2, some (.cells [lj 0, li .u8 0, lj 0, lj 0, lj 0, ls be, lj 0, ls be, lj 0, ls be, lj 0, ls be]))] (.ret (.thenR .fn)))))
    · refine SimI.rn 4 [(30, qb (r2.1 == 0)), (29, qb (r2.1 == 0)), (28, qb (r2.1 == 0)), (27, qj r2.1)] [] (.split 30 (r2.1 == 0) (by kernel_rfl) ?_ ?_)
      · exact SimI.rd 4 [(34, qb true), (33, qb true), (32, .tup []), (31, .tup [])] [] (.thenN (.condT (by kernel_rfl) (.sr 4 [(4, qj 11), (3, qj 0), (35, .agg [lj 0, li .u8 0, lj 0, lj 0, lj 0, ls be, lj 0, ls be, lj 0, ls be, lj 0, ls be])] [(2, some (.cells [lj 0, li .u8 0, lj 0, lj 0, lj 0, ls be, lj 0, ls be, lj 0, ls be, lj 0, ls be]))] (.ret (.thenR .fn)))))
      · refine SimI.rd 4 [(34, qb (decide ((31 : Int) < r2.1))), (33, qb (decide ((31 : Int) < r2.1))), (32, qb (decide ((31 : Int) < r2.1))), (31, qj r2.1)] [] (.thenN (.cond (decide ((31 : Int) < r2.1)) (by kernel_rfl) ?_ ?_))
        · exact Sim.sr 4 [(4, qj 11), (3, qj 0), (35, .agg [lj 0, li .u8 0, lj 0, lj 0, lj 0, ls be, lj 0, ls be, lj 0, ls be, lj 0, ls be])] [(2, some (.cells [lj 0, li .u8 0, lj 0, lj 0, lj 0, ls be, lj 0, ls be, lj 0, ls be, lj 0, ls be]))] (.ret (.thenR .fn))
        · refine Sim.skip (.thenN (.pr [2, 5, 6, 7] [2, 6, 11] [] [(2, qp 2 0), (5, qp 11 0), (6, qp 6 0), (7, qj r2.1)] [(2, some (.cells [lj 0, li .u8 0, lj 0, lj 0, lj 0, ls be, lj 0, ls be, lj 0, ls be, lj 0, ls be])), (6, some (.cells [lj r1.1, li .u8 0, lj 0, lj 0, lj 0, ls be, lj 0, ls be, lj 0, ls be, lj 0, ls be])), (11, some (.cells (Reader.cells r2.2)))] ?_))
          exact F71_j3_ok n r1 r2
  · refine SimI.rd 12 [(34, qb false), (33, .tup []), (32, .tup []), (31, .tup []), (30, .tup []), (29, .tup []), (28, .tup []), (27, .tup []), (26, .tup []), (25, .tup []), (24, .tup []), (23, .tup [])] [] (.thenN (.condF (by kernel_rfl) (.skip (.thenN (.pr [2, 5, 6, 7] [2, 6, 11] [] [(2, qp 2 0), (5, qp 11 0), (6, qp 6 0), (7, qj r2.1)] [(2, some (.cells [lj 0, li .u8 0, lj 0, lj 0, lj 0, ls be, lj 0, ls be, lj 0, ls be, lj 0, ls be])), (6, some (.cells [lj r1.1, li .u8 0, lj 0, lj 0, lj 0, ls be, lj 0, ls be, lj 0, ls be, lj 0, ls be])), (11, some (.cells (Reader.cells r2.2)))] ?_)))))
    exact F71_j3_ok n r1 r2


-- 30: vedette/thing.Read
def F30_e : (Thing × Int × Int) → PV × List Ob := fun r => (.tup [.agg (Thing.cells r.1), .one (li .i64 r.2.1), .one (li .i64 r.2.2)], [])
def F30 (n : Nat) (a0 : ByteArray) : Option (Thing × Int × Int) :=
  (F71 n a0).bind fun (r1 : (Delta × Int × Int)) =>
  if r1.2.2 != 0 then
    some ((Thing.mk 0 (Point.mk 0 0) (A4.mk (Field.mk 0 ByteArray.empty) (Field.mk 0 ByteArray.empty) (Field.mk 0 ByteArray.empty) (Field.mk 0 ByteArray.empty))), 0, r1.2.2)
  else
    if r1.1.Mask != 31 then
      some ((Thing.mk 0 (Point.mk 0 0) (A4.mk (Field.mk 0 ByteArray.empty) (Field.mk 0 ByteArray.empty) (Field.mk 0 ByteArray.empty) (Field.mk 0 ByteArray.empty))), 0, 11)
    else
      some ((Thing.mk r1.1.ID r1.1.At r1.1.F), r1.2.1, 0)
theorem F30_ok (n : Nat) (a0 : ByteArray) : ∀ r, F30 n a0 = some r → D 30 [.one (ls a0)] [] = some (F30_e r) := by
  refine fn_to (D := D) (n := n + 8) (nt := 32) (rs := pc30_r) (c := pc30_c22) (L := [(0, qs a0)]) (M := []) (k := 0) rfl rfl rfl rfl rfl rfl rfl ?_
  unfold F30
  refine Sim.sr 3 [(4, qj 0), (3, qj 0), (2, qp 2 0)] [(2, some (.cells [lj 0, lj 0, lj 0, lj 0, ls be, lj 0, ls be, lj 0, ls be, lj 0, ls be]))] (.st 1 [(9, qs a0)] [] (.cl 10 true [[]] 71 [Operand.tmp 9] none (fun r1 => .tup [.agg (Delta.cells r1.1), qj r1.2.1, qj r1.2.2]) [qs a0] (F71_ok n a0) (fun r1 => ?_)))
  refine SimI.rd 8 [(7, qj r1.2.2), (6, qj r1.2.1), (5, qp 5 0), (13, qj r1.2.2), (12, qj r1.2.1), (11, .agg (Delta.cells r1.1)), (8, .tup [.agg (Delta.cells r1.1), qj r1.2.1, qj r1.2.2])] [(5, some (.cells (Delta.cells r1.1))), (5, some (.cells [lj 0, li .u8 0, lj 0, lj 0, lj 0, ls be, lj 0, ls be, lj 0, ls be, lj 0, ls be]))] (.thenN (.seq (.block (.sr 3 [(14, qb (r1.2.2 != 0)), (16, qb (r1.2.2 != 0)), (15, qj r1.2.2)] [] (.cond (r1.2.2 != 0) (by kernel_rfl) ?_ ?_)))))
  · exact Sim.sr 5 [(4, qj r1.2.2), (3, qj 0), (18, qj r1.2.2), (17, .agg [lj 0, lj 0, lj 0, lj 0, ls be, lj 0, ls be, lj 0, ls be, lj 0, ls be])] [(2, some (.cells [lj 0, lj 0, lj 0, lj 0, ls be, lj 0, ls be, lj 0, ls be, lj 0, ls be]))] (.ret (.blockR (.thenR .fn)))
  · refine Sim.sr 4 [(19, qb (r1.1.Mask != 31)), (22, qb (r1.1.Mask != 31)), (21, .one (li .u8 r1.1.Mask)), (20, qp 5 1)] [] (.cond (r1.1.Mask != 31) (by kernel_rfl) ?_ ?_)
    · exact Sim.sr 4 [(4, qj 11), (3, qj 0), (23, .agg [lj 0, lj 0, lj 0, lj 0, ls be, lj 0, ls be, lj 0, ls be, lj 0, ls be])] [(2, some (.cells [lj 0, lj 0, lj 0, lj 0, ls be, lj 0, ls be, lj 0, ls be, lj 0, ls be]))] (.ret (.blockR (.thenR .fn)))
    · exact Sim.skip (.blockN (.thenN (.sr 11 [(4, qj 0), (3, qj r1.2.1), (31, qj r1.2.1), (30, .agg [lj r1.1.ID, lj r1.1.At.X, lj r1.1.At.Y, lj r1.1.F.a0.N, ls r1.1.F.a0.Text, lj r1.1.F.a1.N, ls r1.1.F.a1.Text, lj r1.1.F.a2.N, ls r1.1.F.a2.Text, lj r1.1.F.a3.N, ls r1.1.F.a3.Text]), (29, .agg (A4_Field.cells r1.1.F)), (28, qp 5 4), (27, .agg [lj r1.1.At.X, lj r1.1.At.Y]), (26, qp 5 2), (25, qj r1.1.ID), (24, qp 5 0)] [(2, some (.cells [lj r1.1.ID, lj r1.1.At.X, lj r1.1.At.Y, lj r1.1.F.a0.N, ls r1.1.F.a0.Text, lj r1.1.F.a1.N, ls r1.1.F.a1.Text, lj r1.1.F.a2.N, ls r1.1.F.a2.Text, lj r1.1.F.a3.N, ls r1.1.F.a3.Text]))] (.ret .fn))))


-- 95: vedette/event.readOne
def F95_e : (Event × Int × Int) → PV × List Ob := fun r => (.tup [.agg (Event.cells r.1), .one (li .i64 r.2.1), .one (li .i64 r.2.2)], [])
def F95_j34 (n : Nat) (r1 : (Int × Int × Int)) (i6 : Int) (i7 : Int) (ii8 : Int) (i9 : Int) (i10 : Int) (i11 : Int) (s12 : ByteArray) (i13 : Int) (s14 : ByteArray) (i15 : Int) (s16 : ByteArray) (i17 : Int) (s18 : ByteArray) (i19 : Int) (i20 : Int) (i21 : Int) (i22 : Int) (i23 : Int) (s24 : ByteArray) (i25 : Int) (s26 : ByteArray) (i27 : Int) (s28 : ByteArray) (i29 : Int) (s30 : ByteArray) (i33 : Int) : Option (Event × Int × Int) :=
    some ((Event.mk (IntKind.wrap .i64 (imin r1.1 4)) i7 (Thing.mk ii8 (Point.mk i9 i10) (A4.mk (Field.mk i11 s12) (Field.mk i13 s14) (Field.mk i15 s16) (Field.mk i17 s18))) (Delta.mk i19 i20 (Point.mk i21 i22) (A4.mk (Field.mk i23 s24) (Field.mk i25 s26) (Field.mk i27 s28) (Field.mk i29 s30)))), IntKind.wrap .i64 (r1.2.1 + i6), i33)
theorem F95_j34_ok (n : Nat) (r1 : (Int × Int × Int)) (i6 : Int) (i7 : Int) (ii8 : Int) (i9 : Int) (i10 : Int) (i11 : Int) (s12 : ByteArray) (i13 : Int) (s14 : ByteArray) (i15 : Int) (s16 : ByteArray) (i17 : Int) (s18 : ByteArray) (i19 : Int) (i20 : Int) (i21 : Int) (i22 : Int) (i23 : Int) (s24 : ByteArray) (i25 : Int) (s26 : ByteArray) (i27 : Int) (s28 : ByteArray) (i29 : Int) (s30 : ByteArray) (i33 : Int) : Sim Try.prog D (n + 8) pc95_c43 [(2, qp 2 0), (6, qj r1.2.1), (7, qj i33), (8, qp 8 0), (9, qj i6)] [(2, some (.cells [lj 0, lj 0, lj 0, lj 0, lj 0, lj 0, ls be, lj 0, ls be, lj 0, ls be, lj 0, ls be, lj 0, li .u8 0, lj 0, lj 0, lj 0, ls be, lj 0, ls be, lj 0, ls be, lj 0, ls be])), (8, some (.cells [lj (IntKind.wrap .i64 (imin r1.1 4)), lj i7, lj ii8, lj i9, lj i10, lj i11, ls s12, lj i13, ls s14, lj i15, ls s16, lj i17, ls s18, lj i19, li .u8 i20, lj i21, lj i22, lj i23, ls s24, lj i25, ls s26, lj i27, ls s28, lj i29, ls s30]))] (F95_j34 n r1 i6 i7 ii8 i9 i10 i11 s12 i13 s14 i15 s16 i17 s18 i19 i20 i21 i22 i23 s24 i25 s26 i27 s28 i29 s30 i33) (QF false pc95_r 0 F95_e) := by
    unfold F95_j34
    exact Sim.seq (.rg [(2, qp 2 0), (6, qj r1.2.1), (7, qj i33), (8, qp 8 0), (9, qj i6)] [(2, some (.cells [lj 0, lj 0, lj 0, lj 0, lj 0, lj 0, ls be, lj 0, ls be, lj 0, ls be, lj 0, ls be, lj 0, li .u8 0, lj 0, lj 0, lj 0, ls be, lj 0, ls be, lj 0, ls be, lj 0, ls be])), (8, some (.cells [lj (IntKind.wrap .i64 (imin r1.1 4)), lj i7, lj ii8, lj i9, lj i10, lj i11, ls s12, lj i13, ls s14, lj i15, ls s16, lj i17, ls s18, lj i19, li .u8 i20, lj i21, lj i22, lj i23, ls s24, lj i25, ls s26, lj i27, ls s28, lj i29, ls s30]))] (.rd 8 [(4, qj i33), (3, qj (IntKind.wrap .i64 (r1.2.1 + i6))), (82, qj i33), (81, qj (IntKind.wrap .i64 (r1.2.1 + i6))), (80, qj i6), (79, qj r1.2.1), (78, .agg [lj (IntKind.wrap .i64 (imin r1.1 4)), lj i7, lj ii8, lj i9, lj i10, lj i11, ls s12, lj i13, ls s14, lj i15, ls s16, lj i17, ls s18, lj i19, li .u8 i20, lj i21, lj i22, lj i23, ls s24, lj i25, ls s26, lj i27, ls s28, lj i29, ls s30])] [(2, some (.cells [lj (IntKind.wrap .i64 (imin r1.1 4)), lj i7, lj ii8, lj i9, lj i10, lj i11, ls s12, lj i13, ls s14, lj i15, ls s16, lj i17, ls s18, lj i19, li .u8 i20, lj i21, lj i22, lj i23, ls s24, lj i25, ls s26, lj i27, ls s28, lj i29, ls s30]))] (.thenN (.ret .fn))))

def F95_j31 (n : Nat) (r1 : (Int × Int × Int)) (i5 : Int) (i6 : Int) (i7 : Int) (ii8 : Int) (i9 : Int) (i10 : Int) (i11 : Int) (s12 : ByteArray) (i13 : Int) (s14 : ByteArray) (i15 : Int) (s16 : ByteArray) (i17 : Int) (s18 : ByteArray) (i19 : Int) (i20 : Int) (i21 : Int) (i22 : Int) (i23 : Int) (s24 : ByteArray) (i25 : Int) (s26 : ByteArray) (i27 : Int) (s28 : ByteArray) (i29 : Int) (s30 : ByteArray) : Option (Event × Int × Int) :=
    if i5 == 0 then
      (F39 n (Event.mk (IntKind.wrap .i64 (imin r1.1 4)) i7 (Thing.mk ii8 (Point.mk i9 i10) (A4.mk (Field.mk i11 s12) (Field.mk i13 s14) (Field.mk i15 s16) (Field.mk i17 s18))) (Delta.mk i19 i20 (Point.mk i21 i22) (A4.mk (Field.mk i23 s24) (Field.mk i25 s26) (Field.mk i27 s28) (Field.mk i29 s30))))).bind fun (r32 : Bool) =>
      if !(r32) then
        F95_j34 n r1 i6 i7 ii8 i9 i10 i11 s12 i13 s14 i15 s16 i17 s18 i19 i20 i21 i22 i23 s24 i25 s26 i27 s28 i29 s30 11
      else
        F95_j34 n r1 i6 i7 ii8 i9 i10 i11 s12 i13 s14 i15 s16 i17 s18 i19 i20 i21 i22 i23 s24 i25 s26 i27 s28 i29 s30 i5
    else
      F95_j34 n r1 i6 i7 ii8 i9 i10 i11 s12 i13 s14 i15 s16 i17 s18 i19 i20 i21 i22 i23 s24 i25 s26 i27 s28 i29 s30 i5
theorem F95_j31_ok (n : Nat) (r1 : (Int × Int × Int)) (i5 : Int) (i6 : Int) (i7 : Int) (ii8 : Int) (i9 : Int) (i10 : Int) (i11 : Int) (s12 : ByteArray) (i13 : Int) (s14 : ByteArray) (i15 : Int) (s16 : ByteArray) (i17 : Int) (s18 : ByteArray) (i19 : Int) (i20 : Int) (i21 : Int) (i22 : Int) (i23 : Int) (s24 : ByteArray) (i25 : Int) (s26 : ByteArray) (i27 : Int) (s28 : ByteArray) (i29 : Int) (s30 : ByteArray) : Sim Try.prog D (n + 8) pc95_c44 [(2, qp 2 0), (6, qj r1.2.1), (7, qj i5), (8, qp 8 0), (9, qj i6)] [(2, some (.cells [lj 0, lj 0, lj 0, lj 0, lj 0, lj 0, ls be, lj 0, ls be, lj 0, ls be, lj 0, ls be, lj 0, li .u8 0, lj 0, lj 0, lj 0, ls be, lj 0, ls be, lj 0, ls be, lj 0, ls be])), (8, some (.cells [lj (IntKind.wrap .i64 (imin r1.1 4)), lj i7, lj ii8, lj i9, lj i10, lj i11, ls s12, lj i13, ls s14, lj i15, ls s16, lj i17, ls s18, lj i19, li .u8 i20, lj i21, lj i22, lj i23, ls s24, lj i25, ls s26, lj i27, ls s28, lj i29, ls s30]))] (F95_j31 n r1 i5 i6 i7 ii8 i9 i10 i11 s12 i13 s14 i15 s16 i17 s18 i19 i20 i21 i22 i23 s24 i25 s26 i27 s28 i29 s30) (QF false pc95_r 0 F95_e) := by
    unfold F95_j31
    refine Sim.seq (.seq (.rg [(2, qp 2 0), (6, qj r1.2.1), (7, qj i5), (8, qp 8 0), (9, qj i6)] [(2, some (.cells [lj 0, lj 0, lj 0, lj 0, lj 0, lj 0, ls be, lj 0, ls be, lj 0, ls be, lj 0, ls be, lj 0, li .u8 0, lj 0, lj 0, lj 0, ls be, lj 0, ls be, lj 0, ls be, lj 0, ls be])), (8, some (.cells [lj (IntKind.wrap .i64 (imin r1.1 4)), lj i7, lj ii8, lj i9, lj i10, lj i11, ls s12, lj i13, ls s14, lj i15, ls s16, lj i17, ls s18, lj i19, li .u8 i20, lj i21, lj i22, lj i23, ls s24, lj i25, ls s26, lj i27, ls s28, lj i29, ls s30]))] (.rn 3 [(73, qb (i5 == 0)), (72, qb (i5 == 0)), (71, qj i5)] [] (.split 73 (i5 == 0) (by kernel_rfl) ?_ ?_))))
    · refine SimI.rn 1 [(74, .agg [lj (IntKind.wrap .i64 (imin r1.1 4)), lj i7, lj ii8, lj i9, lj i10, lj i11, ls s12, lj i13, ls s14, lj i15, ls s16, lj i17, ls s18, lj i19, li .u8 i20, lj i21, lj i22, lj i23, ls s24, lj i25, ls s26, lj i27, ls s28, lj i29, ls s30])] [] (.cl 75 true [[]] 39 [Operand.tmp 74] (some (73, true)) (fun r32 => qb r32) [.agg [lj (IntKind.wrap .i64 (imin r1.1 4)), lj i7, lj ii8, lj i9, lj i10, lj i11, ls s12, lj i13, ls s14, lj i15, ls s16, lj i17, ls s18, lj i19, li .u8 i20, lj i21, lj i22, lj i23, ls s24, lj i25, ls s26, lj i27, ls s28, lj i29, ls s30]] (F39_ok n (Event.mk (IntKind.wrap .i64 (imin r1.1 4)) i7 (Thing.mk ii8 (Point.mk i9 i10) (A4.mk (Field.mk i11 s12) (Field.mk i13 s14) (Field.mk i15 s16) (Field.mk i17 s18))) (Delta.mk i19 i20 (Point.mk i21 i22) (A4.mk (Field.mk i23 s24) (Field.mk i25 s26) (Field.mk i27 s28) (Field.mk i29 s30))))) (fun r32 => ?_))
      refine SimI.rd 2 [(77, qb (!(r32))), (76, qb (!(r32)))] [] (.thenN (.cond (!(r32)) (by kernel_rfl) ?_ ?_))
      · refine Sim.region0 (.rd 1 [(7, qj 11)] [] (.thenN (.pr [2, 6, 7, 8, 9] [2, 8] [] [(2, qp 2 0), (6, qj r1.2.1), (7, qj 11), (8, qp 8 0), (9, qj i6)] [(2, some (.cells [lj 0, lj 0, lj 0, lj 0, lj 0, lj 0, ls be, lj 0, ls be, lj 0, ls be, lj 0, ls be, lj 0, li .u8 0, lj 0, lj 0, lj 0, ls be, lj 0, ls be, lj 0, ls be, lj 0, ls be])), (8, some (.cells [lj (IntKind.wrap .i64 (imin r1.1 4)), lj i7, lj ii8, lj i9, lj i10, lj i11, ls s12, lj i13, ls s14, lj i15, ls s16, lj i17, ls s18, lj i19, li .u8 i20, lj i21, lj i22, lj i23, ls s24, lj i25, ls s26, lj i27, ls s28, lj i29, ls s30]))] ?_)))
        exact F95_j34_ok n r1 i6 i7 ii8 i9 i10 i11 s12 i13 s14 i15 s16 i17 s18 i19 i20 i21 i22 i23 s24 i25 s26 i27 s28 i29 s30 11
      · refine Sim.skip (.thenN (.pr [2, 6, 7, 8, 9] [2, 8] [] [(2, qp 2 0), (6, qj r1.2.1), (7, qj i5), (8, qp 8 0), (9, qj i6)] [(2, some (.cells [lj 0, lj 0, lj 0, lj 0, lj 0, lj 0, ls be, lj 0, ls be, lj 0, ls be, lj 0, ls be, lj 0, li .u8 0, lj 0, lj 0, lj 0, ls be, lj 0, ls be, lj 0, ls be, lj 0, ls be])), (8, some (.cells [lj (IntKind.wrap .i64 (imin r1.1 4)), lj i7, lj ii8, lj i9, lj i10, lj i11, ls s12, lj i13, ls s14, lj i15, ls s16, lj i17, ls s18, lj i19, li .u8 i20, lj i21, lj i22, lj i23, ls s24, lj i25, ls s26, lj i27, ls s28, lj i29, ls s30]))] ?_))
        exact F95_j34_ok n r1 i6 i7 ii8 i9 i10 i11 s12 i13 s14 i15 s16 i17 s18 i19 i20 i21 i22 i23 s24 i25 s26 i27 s28 i29 s30 i5
    · refine SimI.rd 4 [(77, qb false), (76, .tup []), (75, .tup []), (74, .tup [])] [] (.thenN (.condF (by kernel_rfl) (.skip (.thenN (.pr [2, 6, 7, 8, 9] [2, 8] [] [(2, qp 2 0), (6, qj r1.2.1), (7, qj i5), (8, qp 8 0), (9, qj i6)] [(2, some (.cells [lj 0, lj 0, lj 0, lj 0, lj 0, lj 0, ls be, lj 0, ls be, lj 0, ls be, lj 0, ls be, lj 0, li .u8 0, lj 0, lj 0, lj 0, ls be, lj 0, ls be, lj 0, ls be, lj 0, ls be])), (8, some (.cells [lj (IntKind.wrap .i64 (imin r1.1 4)), lj i7, lj ii8, lj i9, lj i10, lj i11, ls s12, lj i13, ls s14, lj i15, ls s16, lj i17, ls s18, lj i19, li .u8 i20, lj i21, lj i22, lj i23, ls s24, lj i25, ls s26, lj i27, ls s28, lj i29, ls s30]))] ?_)))))
      exact F95_j34_ok n r1 i6 i7 ii8 i9 i10 i11 s12 i13 s14 i15 s16 i17 s18 i19 i20 i21 i22 i23 s24 i25 s26 i27 s28 i29 s30 i5

def F95 (n : Nat) (a0 : ByteArray) : Option (Event × Int × Int) :=
  (F73 n a0).bind fun (r1 : (Int × Int × Int)) =>
  if r1.2.2 != 0 then
    some ((Event.mk 0 0 (Thing.mk 0 (Point.mk 0 0) (A4.mk (Field.mk 0 ByteArray.empty) (Field.mk 0 ByteArray.empty) (Field.mk 0 ByteArray.empty) (Field.mk 0 ByteArray.empty))) (Delta.mk 0 0 (Point.mk 0 0) (A4.mk (Field.mk 0 ByteArray.empty) (Field.mk 0 ByteArray.empty) (Field.mk 0 ByteArray.empty) (Field.mk 0 ByteArray.empty)))), 0, r1.2.2)
  else
    if (IntKind.wrap .i64 (imin r1.1 4)) == 1 then
      if 0 ≤ (r1.2.1 : Int) ∧ (r1.2.1 : Int) ≤ (a0.size : Int) then
        (F30 n (a0.extract r1.2.1.toNat a0.size)).bind fun (r2 : (Thing × Int × Int)) =>
        F95_j31 n r1 r2.2.2 r2.2.1 r2.1.ID r2.1.ID r2.1.At.X r2.1.At.Y r2.1.F.a0.N r2.1.F.a0.Text r2.1.F.a1.N r2.1.F.a1.Text r2.1.F.a2.N r2.1.F.a2.Text r2.1.F.a3.N r2.1.F.a3.Text 0 0 0 0 0 ByteArray.empty 0 ByteArray.empty 0 ByteArray.empty 0 ByteArray.empty
      else none
    else
      if (IntKind.wrap .i64 (imin r1.1 4)) == 2 then
        if 0 ≤ (r1.2.1 : Int) ∧ (r1.2.1 : Int) ≤ (a0.size : Int) then
          (F71 n (a0.extract r1.2.1.toNat a0.size)).bind fun (r3 : (Delta × Int × Int)) =>
          F95_j31 n r1 r3.2.2 r3.2.1 r3.1.ID 0 0 0 0 ByteArray.empty 0 ByteArray.empty 0 ByteArray.empty 0 ByteArray.empty r3.1.ID r3.1.Mask r3.1.At.X r3.1.At.Y r3.1.F.a0.N r3.1.F.a0.Text r3.1.F.a1.N r3.1.F.a1.Text r3.1.F.a2.N r3.1.F.a2.Text r3.1.F.a3.N r3.1.F.a3.Text
        else none
      else
        if (IntKind.wrap .i64 (imin r1.1 4)) == 3 then
          if 0 ≤ (r1.2.1 : Int) ∧ (r1.2.1 : Int) ≤ (a0.size : Int) then
            (F73 n (a0.extract r1.2.1.toNat a0.size)).bind fun (r4 : (Int × Int × Int)) =>
            F95_j31 n r1 r4.2.2 r4.2.1 (IntKind.wrap .i64 (imin r4.1 1000001)) 0 0 0 0 ByteArray.empty 0 ByteArray.empty 0 ByteArray.empty 0 ByteArray.empty 0 0 0 0 0 ByteArray.empty 0 ByteArray.empty 0 ByteArray.empty 0 ByteArray.empty
          else none
        else
          F95_j31 n r1 r1.2.2 0 0 0 0 0 0 ByteArray.empty 0 ByteArray.empty 0 ByteArray.empty 0 ByteArray.empty 0 0 0 0 0 ByteArray.empty 0 ByteArray.empty 0 ByteArray.empty 0 ByteArray.empty
theorem F95_ok (n : Nat) (a0 : ByteArray) : ∀ r, F95 n a0 = some r → D 95 [.one (ls a0)] [] = some (F95_e r) := by
  refine fn_to (D := D) (n := n + 8) (nt := 83) (rs := pc95_r) (c := pc95_c50) (L := [(0, qs a0)]) (M := []) (k := 0) rfl rfl rfl rfl rfl rfl rfl ?_
  unfold F95
  refine Sim.sr 3 [(4, qj 0), (3, qj 0), (2, qp 2 0)] [(2, some (.cells [lj 0, lj 0, lj 0, lj 0, lj 0, lj 0, ls be, lj 0, ls be, lj 0, ls be, lj 0, ls be, lj 0, li .u8 0, lj 0, lj 0, lj 0, ls be, lj 0, ls be, lj 0, ls be, lj 0, ls be]))] (.st 1 [(12, qs a0)] [] (.cl 13 true [[]] 73 [Operand.tmp 12] none (fun r1 => .tup [.one (li .u64 r1.1), qj r1.2.1, qj r1.2.2]) [qs a0] (F73_ok n a0) (fun r1 => ?_)))
  refine SimI.rd 7 [(7, qj r1.2.2), (6, qj r1.2.1), (5, .one (li .u64 r1.1)), (16, qj r1.2.2), (15, qj r1.2.1), (14, .one (li .u64 r1.1)), (11, .tup [.one (li .u64 r1.1), qj r1.2.1, qj r1.2.2])] [] (.thenN (.seq (.sr 2 [(18, qb (r1.2.2 != 0)), (17, qj r1.2.2)] [] (.cond (r1.2.2 != 0) (by kernel_rfl) ?_ ?_))))
  · exact Sim.sr 5 [(4, qj r1.2.2), (3, qj 0), (20, qj r1.2.2), (19, .agg [lj 0, lj 0, lj 0, lj 0, lj 0, lj 0, ls be, lj 0, ls be, lj 0, ls be, lj 0, ls be, lj 0, li .u8 0, lj 0, lj 0, lj 0, ls be, lj 0, ls be, lj 0, ls be, lj 0, ls be])] [(2, some (.cells [lj 0, lj 0, lj 0, lj 0, lj 0, lj 0, ls be, lj 0, ls be, lj 0, ls be, lj 0, ls be, lj 0, li .u8 0, lj 0, lj 0, lj 0, ls be, lj 0, ls be, lj 0, ls be, lj 0, ls be]))] (.ret (.thenR .fn))
  · refine Sim.skip (.thenN (.sr 6 [(8, qp 8 0), (24, .agg [lj (IntKind.wrap .i64 (imin r1.1 4)), lj 0, lj 0, lj 0, lj 0, lj 0, ls be, lj 0, ls be, lj 0, ls be, lj 0, ls be, lj 0, li .u8 0, lj 0, lj 0, lj 0, ls be, lj 0, ls be, lj 0, ls be, lj 0, ls be]), (23, qj (IntKind.wrap .i64 (imin r1.1 4))), (22, .one (li .u64 (imin r1.1 4))), (21, .one (li .u64 r1.1))] [(8, some (.cells [lj (IntKind.wrap .i64 (imin r1.1 4)), lj 0, lj 0, lj 0, lj 0, lj 0, ls be, lj 0, ls be, lj 0, ls be, lj 0, ls be, lj 0, li .u8 0, lj 0, lj 0, lj 0, ls be, lj 0, ls be, lj 0, ls be, lj 0, ls be])), (8, some (.cells [lj 0, lj 0, lj 0, lj 0, lj 0, lj 0, ls be, lj 0, ls be, lj 0, ls be, lj 0, ls be, lj 0, li .u8 0, lj 0, lj 0, lj 0, ls be, lj 0, ls be, lj 0, ls be, lj 0, ls be]))] (.sr 1 [(9, qj 0)] [] (.seq (.sr 2 [(26, qj (IntKind.wrap .i64 (imin r1.1 4))), (25, qp 8 0)] [] (.block (.sr 2 [(27, qb ((IntKind.wrap .i64 (imin r1.1 4)) == 1)), (28, qb ((IntKind.wrap .i64 (imin r1.1 4)) == 1))] [] (.cond ((IntKind.wrap .i64 (imin r1.1 4)) == 1) (by kernel_rfl) ?_ ?_))))))))
    · refine Sim.st 2 [(31, qj r1.2.1), (30, qs a0)] [] (.guard (c := 0 ≤ (r1.2.1 : Int) ∧ (r1.2.1 : Int) ≤ (a0.size : Int)) ⟨some 32, POp.prim (Prim.slice 9 true false) [Operand.tmp 30, Operand.tmp 31], none, []⟩ [(32, qs (a0.extract r1.2.1.toNat a0.size))] [] (by kernel_rfl) (fun hc => pOp_eff (by kernel_rfl) (by kernel_rfl) (eff_prim (by kernel_rfl) (pr_cutL (s := a0) (k := .i64) (a := r1.2.1) Try.underlying9 hc))) (.cl 33 true [[]] 30 [Operand.tmp 32] none (fun r2 => .tup [.agg (Thing.cells r2.1), qj r2.2.1, qj r2.2.2]) [qs (a0.extract r1.2.1.toNat a0.size)] (F30_ok n (a0.extract r1.2.1.toNat a0.size)) (fun r2 => ?_)))
      refine SimI.rd 8 [(7, qj r2.2.2), (9, qj r2.2.1), (37, qp 8 2), (36, qj r2.2.2), (35, qj r2.2.1), (34, .agg (Thing.cells r2.1)), (29, .tup [.agg (Thing.cells r2.1), qj r2.2.1, qj r2.2.2])] [(8, some (.cells [lj (IntKind.wrap .i64 (imin r1.1 4)), lj 0, lj r2.1.ID, lj r2.1.At.X, lj r2.1.At.Y, lj r2.1.F.a0.N, ls r2.1.F.a0.Text, lj r2.1.F.a1.N, ls r2.1.F.a1.Text, lj r2.1.F.a2.N, ls r2.1.F.a2.Text, lj r2.1.F.a3.N, ls r2.1.F.a3.Text, lj 0, li .u8 0, lj 0, lj 0, lj 0, ls be, lj 0, ls be, lj 0, ls be, lj 0, ls be]))] (.thenN (.region0 (.rd 5 [(41, qp 8 1), (40, qj r2.1.ID), (39, qp 8 2), (38, qp 8 2)] [(8, some (.cells [lj (IntKind.wrap .i64 (imin r1.1 4)), lj r2.1.ID, lj r2.1.ID, lj r2.1.At.X, lj r2.1.At.Y, lj r2.1.F.a0.N, ls r2.1.F.a0.Text, lj r2.1.F.a1.N, ls r2.1.F.a1.Text, lj r2.1.F.a2.N, ls r2.1.F.a2.Text, lj r2.1.F.a3.N, ls r2.1.F.a3.Text, lj 0, li .u8 0, lj 0, lj 0, lj 0, ls be, lj 0, ls be, lj 0, ls be, lj 0, ls be]))] (.blockN (.thenN (.pr [2, 6, 7, 8, 9] [2, 8] [] [(2, qp 2 0), (6, qj r1.2.1), (7, qj r2.2.2), (8, qp 8 0), (9, qj r2.2.1)] [(2, some (.cells [lj 0, lj 0, lj 0, lj 0, lj 0, lj 0, ls be, lj 0, ls be, lj 0, ls be, lj 0, ls be, lj 0, li .u8 0, lj 0, lj 0, lj 0, ls be, lj 0, ls be, lj 0, ls be, lj 0, ls be])), (8, some (.cells [lj (IntKind.wrap .i64 (imin r1.1 4)), lj r2.1.ID, lj r2.1.ID, lj r2.1.At.X, lj r2.1.At.Y, lj r2.1.F.a0.N, ls r2.1.F.a0.Text, lj r2.1.F.a1.N, ls r2.1.F.a1.Text, lj r2.1.F.a2.N, ls r2.1.F.a2.Text, lj r2.1.F.a3.N, ls r2.1.F.a3.Text, lj 0, li .u8 0, lj 0, lj 0, lj 0, ls be, lj 0, ls be, lj 0, ls be, lj 0, ls be]))] ?_))))))
      exact F95_j31_ok n r1 r2.2.2 r2.2.1 r2.1.ID r2.1.ID r2.1.At.X r2.1.At.Y r2.1.F.a0.N r2.1.F.a0.Text r2.1.F.a1.N r2.1.F.a1.Text r2.1.F.a2.N r2.1.F.a2.Text r2.1.F.a3.N r2.1.F.a3.Text 0 0 0 0 0 be 0 be 0 be 0 be
    · refine Sim.sr 2 [(42, qb ((IntKind.wrap .i64 (imin r1.1 4)) == 2)), (43, qb ((IntKind.wrap .i64 (imin r1.1 4)) == 2))] [] (.cond ((IntKind.wrap .i64 (imin r1.1 4)) == 2) (by kernel_rfl) ?_ ?_)
      · refine Sim.st 2 [(46, qj r1.2.1), (45, qs a0)] [] (.guard (c := 0 ≤ (r1.2.1 : Int) ∧ (r1.2.1 : Int) ≤ (a0.size : Int)) ⟨some 47, POp.prim (Prim.slice 9 true false) [Operand.tmp 45, Operand.tmp 46], none, []⟩ [(47, qs (a0.extract r1.2.1.toNat a0.size))] [] (by kernel_rfl) (fun hc => pOp_eff (by kernel_rfl) (by kernel_rfl) (eff_prim (by kernel_rfl) (pr_cutL (s := a0) (k := .i64) (a := r1.2.1) Try.underlying9 hc))) (.cl 48 true [[]] 71 [Operand.tmp 47] none (fun r3 => .tup [.agg (Delta.cells r3.1), qj r3.2.1, qj r3.2.2]) [qs (a0.extract r1.2.1.toNat a0.size)] (F71_ok n (a0.extract r1.2.1.toNat a0.size)) (fun r3 => ?_)))
        refine SimI.rd 8 [(7, qj r3.2.2), (9, qj r3.2.1), (52, qp 8 13), (51, qj r3.2.2), (50, qj r3.2.1), (49, .agg (Delta.cells r3.1)), (44, .tup [.agg (Delta.cells r3.1), qj r3.2.1, qj r3.2.2])] [(8, some (.cells [lj (IntKind.wrap .i64 (imin r1.1 4)), lj 0, lj 0, lj 0, lj 0, lj 0, ls be, lj 0, ls be, lj 0, ls be, lj 0, ls be, lj r3.1.ID, li .u8 r3.1.Mask, lj r3.1.At.X, lj r3.1.At.Y, lj r3.1.F.a0.N, ls r3.1.F.a0.Text, lj r3.1.F.a1.N, ls r3.1.F.a1.Text, lj r3.1.F.a2.N, ls r3.1.F.a2.Text, lj r3.1.F.a3.N, ls r3.1.F.a3.Text]))] (.thenN (.region0 (.rd 5 [(56, qp 8 1), (55, qj r3.1.ID), (54, qp 8 13), (53, qp 8 13)] [(8, some (.cells [lj (IntKind.wrap .i64 (imin r1.1 4)), lj r3.1.ID, lj 0, lj 0, lj 0, lj 0, ls be, lj 0, ls be, lj 0, ls be, lj 0, ls be, lj r3.1.ID, li .u8 r3.1.Mask, lj r3.1.At.X, lj r3.1.At.Y, lj r3.1.F.a0.N, ls r3.1.F.a0.Text, lj r3.1.F.a1.N, ls r3.1.F.a1.Text, lj r3.1.F.a2.N, ls r3.1.F.a2.Text, lj r3.1.F.a3.N, ls r3.1.F.a3.Text]))] (.blockN (.thenN (.pr [2, 6, 7, 8, 9] [2, 8] [] [(2, qp 2 0), (6, qj r1.2.1), (7, qj r3.2.2), (8, qp 8 0), (9, qj r3.2.1)] [(2, some (.cells [lj 0, lj 0, lj 0, lj 0, lj 0, lj 0, ls be, lj 0, ls be, lj 0, ls be, lj 0, ls be, lj 0, li .u8 0, lj 0, lj 0, lj 0, ls be, lj 0, ls be, lj 0, ls be, lj 0, ls be])), (8, some (.cells [lj (IntKind.wrap .i64 (imin r1.1 4)), lj r3.1.ID, lj 0, lj 0, lj 0, lj 0, ls be, lj 0, ls be, lj 0, ls be, lj 0, ls be, lj r3.1.ID, li .u8 r3.1.Mask, lj r3.1.At.X, lj r3.1.At.Y, lj r3.1.F.a0.N, ls r3.1.F.a0.Text, lj r3.1.F.a1.N, ls r3.1.F.a1.Text, lj r3.1.F.a2.N, ls r3.1.F.a2.Text, lj r3.1.F.a3.N, ls r3.1.F.a3.Text]))] ?_))))))
        exact F95_j31_ok n r1 r3.2.2 r3.2.1 r3.1.ID 0 0 0 0 be 0 be 0 be 0 be r3.1.ID r3.1.Mask r3.1.At.X r3.1.At.Y r3.1.F.a0.N r3.1.F.a0.Text r3.1.F.a1.N r3.1.F.a1.Text r3.1.F.a2.N r3.1.F.a2.Text r3.1.F.a3.N r3.1.F.a3.Text
      · refine Sim.sr 2 [(57, qb ((IntKind.wrap .i64 (imin r1.1 4)) == 3)), (58, qb ((IntKind.wrap .i64 (imin r1.1 4)) == 3))] [] (.cond ((IntKind.wrap .i64 (imin r1.1 4)) == 3) (by kernel_rfl) ?_ ?_)
        · refine Sim.sr 1 [(10, .one (li .u64 0))] [] (.st 2 [(61, qj r1.2.1), (60, qs a0)] [] (.guard (c := 0 ≤ (r1.2.1 : Int) ∧ (r1.2.1 : Int) ≤ (a0.size : Int)) ⟨some 62, POp.prim (Prim.slice 9 true false) [Operand.tmp 60, Operand.tmp 61], none, []⟩ [(62, qs (a0.extract r1.2.1.toNat a0.size))] [] (by kernel_rfl) (fun hc => pOp_eff (by kernel_rfl) (by kernel_rfl) (eff_prim (by kernel_rfl) (pr_cutL (s := a0) (k := .i64) (a := r1.2.1) Try.underlying9 hc))) (.cl 63 true [[]] 73 [Operand.tmp 62] none (fun r4 => .tup [.one (li .u64 r4.1), qj r4.2.1, qj r4.2.2]) [qs (a0.extract r1.2.1.toNat a0.size)] (F73_ok n (a0.extract r1.2.1.toNat a0.size)) (fun r4 => ?_))))
          refine SimI.rd 7 [(7, qj r4.2.2), (9, qj r4.2.1), (10, .one (li .u64 r4.1)), (66, qj r4.2.2), (65, qj r4.2.1), (64, .one (li .u64 r4.1)), (59, .tup [.one (li .u64 r4.1), qj r4.2.1, qj r4.2.2])] [] (.thenN (.region0 (.rd 5 [(70, qp 8 1), (69, qj (IntKind.wrap .i64 (imin r4.1 1000001))), (68, .one (li .u64 (imin r4.1 1000001))), (67, .one (li .u64 r4.1))] [(8, some (.cells [lj (IntKind.wrap .i64 (imin r1.1 4)), lj (IntKind.wrap .i64 (imin r4.1 1000001)), lj 0, lj 0, lj 0, lj 0, ls be, lj 0, ls be, lj 0, ls be, lj 0, ls be, lj 0, li .u8 0, lj 0, lj 0, lj 0, ls be, lj 0, ls be, lj 0, ls be, lj 0, ls be]))] (.blockN (.thenN (.pr [2, 6, 7, 8, 9] [2, 8] [] [(2, qp 2 0), (6, qj r1.2.1), (7, qj r4.2.2), (8, qp 8 0), (9, qj r4.2.1)] [(2, some (.cells [lj 0, lj 0, lj 0, lj 0, lj 0, lj 0, ls be, lj 0, ls be, lj 0, ls be, lj 0, ls be, lj 0, li .u8 0, lj 0, lj 0, lj 0, ls be, lj 0, ls be, lj 0, ls be, lj 0, ls be])), (8, some (.cells [lj (IntKind.wrap .i64 (imin r1.1 4)), lj (IntKind.wrap .i64 (imin r4.1 1000001)), lj 0, lj 0, lj 0, lj 0, ls be, lj 0, ls be, lj 0, ls be, lj 0, ls be, lj 0, li .u8 0, lj 0, lj 0, lj 0, ls be, lj 0, ls be, lj 0, ls be, lj 0, ls be]))] ?_))))))
          exact F95_j31_ok n r1 r4.2.2 r4.2.1 (IntKind.wrap .i64 (imin r4.1 1000001)) 0 0 0 0 be 0 be 0 be 0 be 0 0 0 0 0 be 0 be 0 be 0 be
        · refine Sim.skip (.blockN (.thenN (.pr [2, 6, 7, 8, 9] [2, 8] [] [(2, qp 2 0), (6, qj r1.2.1), (7, qj r1.2.2), (8, qp 8 0), (9, qj 0)] [(2, some (.cells [lj 0, lj 0, lj 0, lj 0, lj 0, lj 0, ls be, lj 0, ls be, lj 0, ls be, lj 0, ls be, lj 0, li .u8 0, lj 0, lj 0, lj 0, ls be, lj 0, ls be, lj 0, ls be, lj 0, ls be])), (8, some (.cells [lj (IntKind.wrap .i64 (imin r1.1 4)), lj 0, lj 0, lj 0, lj 0, lj 0, ls be, lj 0, ls be, lj 0, ls be, lj 0, ls be, lj 0, li .u8 0, lj 0, lj 0, lj 0, ls be, lj 0, ls be, lj 0, ls be, lj 0, ls be]))] ?_)))
          exact F95_j31_ok n r1 r1.2.2 0 0 0 0 0 0 be 0 be 0 be 0 be 0 0 0 0 0 be 0 be 0 be 0 be


-- 54: vedette/event.Read
def F54_e : ((List Event) × Int × Int) → PV × List Ob := fun r => (.tup [.one (vw Event.cod r.1), .one (li .i64 r.2.1), .one (li .i64 r.2.2)], [])
def F54_l11 (n : Nat) (a0 : ByteArray) (r1 : (Int × Int × Int)) : Nat → Int → (List Event) → Int → Option ((List Event) × Int × Int)
  | 0, _, _, _ => none
  | m + 1, ii8, l9, i10 =>
    if decide (i10 < r1.1) then
      if 0 ≤ (ii8 : Int) ∧ (ii8 : Int) ≤ (a0.size : Int) then
        (F95 n (a0.extract ii8.toNat a0.size)).bind fun (r12 : (Event × Int × Int)) =>
        if r12.2.2 != 0 then
          some (([] : List Event), 0, r12.2.2)
        else
          if ((l9).length + 1) * 264 ≤ maxCells ∧ (l9).length + 1 ≤ maxCells then
            (F54_l11 n a0 r1 m) (IntKind.wrap .i64 (ii8 + r12.2.1)) (l9 ++ [r12.1]) (IntKind.wrap .u64 (i10 + 1))
          else none
      else none
    else
      some (l9, ii8, 0)
theorem F54_l11_ok (n : Nat) (a0 : ByteArray) (r1 : (Int × Int × Int)) : ∀ (m : Nat) (ii8 : Int) (l9 : (List Event)) (i10 : Int), SimL Try.prog D (n + 8) m pc54_c40 [(0, qs a0), (6, qj ii8), (8, .one (.osl 100008 0 0 (l9).length)), (25, .one (li .u64 r1.1)), (26, .one (li .u64 i10))] [(100008, some (.arr 67 Event.cod.sz 0 (l9).length (getOf Event.cod l9)))] (F54_l11 n a0 r1 m ii8 l9 i10) (QB 1 (QT Try.prog D (n + 8) pc54_c46 (QF false pc54_r 0 F54_e))) := by
  intro m_l11
  induction m_l11 with
  | zero => intro ii8 l9 i10; exact SimL.zero'  rfl
  | succ m_l11 ih_l11 =>
    intro ii8 l9 i10
    refine SimL.succ ?_
    unfold F54_l11
    refine Sim.seq (.rg [(0, qs a0), (6, qj ii8), (8, .one (.osl 100008 0 0 (l9).length)), (25, .one (li .u64 r1.1)), (26, .one (li .u64 i10))] [(100008, some (.arr 67 Event.cod.sz 0 (l9).length (getOf Event.cod l9)))] (.rd 1 [(27, qb (decide (i10 < r1.1)))] [] (.thenN (.seq (.cond (decide (i10 < r1.1)) (by kernel_rfl) ?_ ?_)))))
    · refine Sim.skip (.thenN (.seq (.block (.st 2 [(30, qj ii8), (29, qs a0)] [] (.guard (c := 0 ≤ (ii8 : Int) ∧ (ii8 : Int) ≤ (a0.size : Int)) ⟨some 31, POp.prim (Prim.slice 9 true false) [Operand.tmp 29, Operand.tmp 30], none, []⟩ [(31, qs (a0.extract ii8.toNat a0.size))] [] (by kernel_rfl) (fun hc => pOp_eff (by kernel_rfl) (by kernel_rfl) (eff_prim (by kernel_rfl) (pr_cutL (s := a0) (k := .i64) (a := ii8) Try.underlying9 hc))) (.cl 32 true [[]] 95 [Operand.tmp 31] none (fun r12 => .tup [.agg (Event.cells r12.1), qj r12.2.1, qj r12.2.2]) [qs (a0.extract ii8.toNat a0.size)] (F95_ok n (a0.extract ii8.toNat a0.size)) (fun r12 => ?_)))))))
      refine SimI.rd 8 [(11, qj r12.2.2), (10, qj r12.2.1), (9, qp 9 0), (35, qj r12.2.2), (34, qj r12.2.1), (33, .agg (Event.cells r12.1)), (28, .tup [.agg (Event.cells r12.1), qj r12.2.1, qj r12.2.2])] [(9, some (.cells (Event.cells r12.1))), (9, some (.cells [lj 0, lj 0, lj 0, lj 0, lj 0, lj 0, ls be, lj 0, ls be, lj 0, ls be, lj 0, ls be, lj 0, li .u8 0, lj 0, lj 0, lj 0, ls be, lj 0, ls be, lj 0, ls be, lj 0, ls be]))] (.thenN (.seq (.sr 2 [(37, qb (r12.2.2 != 0)), (36, qj r12.2.2)] [] (.cond (r12.2.2 != 0) (by kernel_rfl) ?_ ?_))))
      · exact Sim.sr 4 [(4, qj r12.2.2), (3, qj 0), (2, .one (lnil)), (38, qj r12.2.2)] [] (.ret (.thenR (.blockR (.thenR (.loopR (.blockR (.thenR .fn)))))))
      · refine Sim.skip (.thenN (.st 3 [(41, .one (vw Event.cod [r12.1])), (40, .agg (Event.cells r12.1)), (39, .one (.osl 100008 0 0 (l9).length))] [] (.guard (c := ((l9).length + 1) * 264 ≤ maxCells ∧ (l9).length + 1 ≤ maxCells) ⟨some 42, POp.app 100008 67 25 264 (Operand.tmp 39) (Operand.tmp 41), none, []⟩ [(42, .one (.osl 100008 (0 + 1) 0 ((l9 ++ [r12.1])).length))] [(100008, some (.arr 67 Event.cod.sz (0 + 1) ((l9 ++ [r12.1])).length (getOf Event.cod (l9 ++ [r12.1]))))] (by kernel_rfl) (fun hc => pOp_eff (by kernel_rfl) (by kernel_rfl) (eff_appO (c := Event.cod) (g := 0) (l := l9) (a := r12.1) (by kernel_rfl) (by kernel_rfl) (by kernel_rfl) (by kernel_rfl) hc)) (.rd 1 [(8, .one (.osl 100008 (0 + 1) 0 ((l9 ++ [r12.1])).length))] [] (.thenN (.region0 (.rd 4 [(6, qj (IntKind.wrap .i64 (ii8 + r12.2.1))), (45, qj (IntKind.wrap .i64 (ii8 + r12.2.1))), (44, qj r12.2.1), (43, qj ii8)] [] (.blockN (.thenN (.region0 (.rd 2 [(26, .one (li .u64 (IntKind.wrap .u64 (i10 + 1)))), (46, .one (li .u64 (IntKind.wrap .u64 (i10 + 1))))] [] (.loopN (.pr [0, 6, 8, 25, 26] [9, 100008] [(false, 8, 0, 100008, 67, 25)] [(0, qs a0), (6, qj (IntKind.wrap .i64 (ii8 + r12.2.1))), (8, .one (.osl 100008 0 0 ((l9 ++ [r12.1])).length)), (25, .one (li .u64 r1.1)), (26, .one (li .u64 (IntKind.wrap .u64 (i10 + 1))))] [(100008, some (.arr 67 Event.cod.sz 0 ((l9 ++ [r12.1])).length (getOf Event.cod (l9 ++ [r12.1]))))] ?_)))))))))))))
        exact ih_l11 (IntKind.wrap .i64 (ii8 + r12.2.1)) (l9 ++ [r12.1]) (IntKind.wrap .u64 (i10 + 1))
    · exact Sim.exit (.thenX (.loopX (.blockX (.thenN (.sr 5 [(4, qj 0), (3, qj ii8), (2, .one (.osl 100008 0 0 (l9).length)), (48, qj ii8), (47, .one (.osl 100008 0 0 (l9).length))] [] (.ret (.fin (out_of (os := []) (ress_cons (resOf_own (c := Event.cod) (k := 100008) (g := 0) (el := 67) (l := l9) (by kernel_rfl) (by kernel_rfl) (by kernel_rfl)) (ress_cons (v := qj ii8) (by kernel_rfl) (ress_cons (v := qj 0) (by kernel_rfl) (ress_nil)))) (by kernel_rfl) rfl (by kernel_rfl)))))))))

def F54 (n : Nat) (a0 : ByteArray) : Option ((List Event) × Int × Int) :=
  (F73 n a0).bind fun (r1 : (Int × Int × Int)) =>
  if r1.2.2 != 0 then
    some (([] : List Event), 0, r1.2.2)
  else
    if decide ((400 : Int) < r1.1) then
      some (([] : List Event), 0, 13)
    else
      F54_l11 n a0 r1 (n + 8) r1.2.1 ([] : List Event) 0
theorem F54_ok (n : Nat) (a0 : ByteArray) : ∀ r, F54 n a0 = some r → D 54 [.one (ls a0)] [] = some (F54_e r) := by
  refine fn_to (D := D) (n := n + 8) (nt := 49) (rs := pc54_r) (c := pc54_c51) (L := [(0, qs a0)]) (M := []) (k := 0) rfl rfl rfl rfl rfl rfl rfl ?_
  unfold F54
  refine Sim.sr 3 [(4, qj 0), (3, qj 0), (2, .one (lnil))] [] (.st 1 [(13, qs a0)] [] (.cl 14 true [[]] 73 [Operand.tmp 13] none (fun r1 => .tup [.one (li .u64 r1.1), qj r1.2.1, qj r1.2.2]) [qs a0] (F73_ok n a0) (fun r1 => ?_)))
  refine SimI.rd 7 [(7, qj r1.2.2), (6, qj r1.2.1), (5, .one (li .u64 r1.1)), (17, qj r1.2.2), (16, qj r1.2.1), (15, .one (li .u64 r1.1)), (12, .tup [.one (li .u64 r1.1), qj r1.2.1, qj r1.2.2])] [] (.thenN (.seq (.block (.sr 3 [(18, qb (r1.2.2 != 0)), (20, qb (r1.2.2 != 0)), (19, qj r1.2.2)] [] (.cond (r1.2.2 != 0) (by kernel_rfl) ?_ ?_)))))
  · exact Sim.sr 4 [(4, qj r1.2.2), (3, qj 0), (2, .one (lnil)), (21, qj r1.2.2)] [] (.ret (.blockR (.thenR .fn)))
  · refine Sim.sr 3 [(22, qb (decide ((400 : Int) < r1.1))), (24, qb (decide ((400 : Int) < r1.1))), (23, .one (li .u64 r1.1))] [] (.cond (decide ((400 : Int) < r1.1)) (by kernel_rfl) ?_ ?_)
    · exact Sim.sr 3 [(4, qj 13), (3, qj 0), (2, .one (lnil))] [] (.ret (.blockR (.thenR .fn)))
    · refine Sim.skip (.blockN (.thenN (.sr 1 [(8, .one (lnil))] [] (.seq (.sr 2 [(26, .one (li .u64 0)), (25, .one (li .u64 r1.1))] [] (.block (.loop (.pr [0, 6, 8, 25, 26] [9, 100008] [(false, 8, 0, 100008, 67, 25)] [(0, qs a0), (6, qj r1.2.1), (8, .one (.osl 100008 0 0 (([] : List Event)).length)), (25, .one (li .u64 r1.1)), (26, .one (li .u64 0))] [(100008, some (.arr 67 Event.cod.sz 0 (([] : List Event)).length (getOf Event.cod ([] : List Event))))] ?_))))))))
      exact F54_l11_ok n a0 r1 (n + 8) r1.2.1 ([] : List Event) 0


-- 42: vedette/vedettelaw15.known
theorem F42_ok (n : Nat) : ∀ r, (some true : Option Bool) = some r → D 42 [] [] = some (.one (lb r), []) := by
  rintro _ ⟨⟩
  exact all_of (N := 60) (by kernel_rfl)


-- 50: vedette/vedetteref15.Same
def F50_e : Bool → PV × List Ob := fun r => (.one (lb r), [])
def F50_l4 (n : Nat) (a0 : (List Event)) (a1 : (List Event)) : Nat → Int → Option Bool
  | 0, _ => none
  | m + 1, i3 =>
    if decide (i3 < ((a0).length : Int)) then
      (ix a0 i3).bind fun (x5 : Event) =>
      (ix a1 i3).bind fun (x6 : Event) =>
      if !(Event.eqb x5 x6) then
        some false
      else
        (F50_l4 n a0 a1 m) (IntKind.wrap .i64 (i3 + 1))
    else
      some true
theorem F50_l4_ok (n : Nat) (a0 : (List Event)) (a1 : (List Event)) : ∀ (m : Nat) (i3 : Int), SimL Try.prog D (n + 8) m pc50_c25 [(0, .one (vw Event.cod a0)), (1, .one (vw Event.cod a1)), (5, qj i3)] [] (F50_l4 n a0 a1 m i3) (QB 0 (QT Try.prog D (n + 8) pc50_c31 (QF false pc50_r 0 F50_e))) := by
  intro m_l4
  induction m_l4 with
  | zero => intro i3; exact SimL.zero'  rfl
  | succ m_l4 ih_l4 =>
    intro i3
    refine SimL.succ ?_
    unfold F50_l4
    refine Sim.seq (.seq (.rg [(0, .one (vw Event.cod a0)), (1, .one (vw Event.cod a1)), (5, qj i3)] [] (.rd 4 [(14, qb (decide (i3 < ((a0).length : Int)))), (13, qj ((a0).length : Int)), (12, .one (vw Event.cod a0)), (11, qj i3)] [] (.thenN (.cond (decide (i3 < ((a0).length : Int))) (by kernel_rfl) ?_ ?_)))))
    · refine Sim.skip (.thenN (.seq (.block (.st 2 [(18, qj i3), (17, .one (vw Event.cod a0))] [] (.bind (og := ix a0 i3) ⟨some 19, POp.iaddrS 25 (Operand.tmp 17) (Operand.tmp 18), none, [(17, Hint.imm), (18, Hint.imm)]⟩ (fun x5 => [(19, .one (.eptr (Event.cod.enc x5) 0))]) (fun x5 => []) (by kernel_rfl) (fun x5 hr => pOp_eff (by kernel_rfl) (by kernel_rfl) (eff_idx (c := Event.cod) (l := a0) (k := .i64) (n := i3) (by kernel_rfl) (by kernel_rfl) (by kernel_rfl) hr)) (fun x5 => ?_))))))
      refine SimI.rn 3 [(22, qj i3), (21, .one (vw Event.cod a1)), (20, .agg (Event.cells x5))] [] (.bind (og := ix a1 i3) ⟨some 23, POp.iaddrS 25 (Operand.tmp 21) (Operand.tmp 22), none, [(21, Hint.imm), (22, Hint.imm)]⟩ (fun x6 => [(23, .one (.eptr (Event.cod.enc x6) 0))]) (fun x6 => []) (by kernel_rfl) (fun x6 hr => pOp_eff (by kernel_rfl) (by kernel_rfl) (eff_idx (c := Event.cod) (l := a1) (k := .i64) (n := i3) (by kernel_rfl) (by kernel_rfl) (by kernel_rfl) hr)) (fun x6 => ?_))
      refine SimI.rn 1 [(24, .agg (Event.cells x6))] [] (.step ⟨some 25, POp.prim (Prim.bin BinOp.neq 67 false false) [Operand.tmp 20, Operand.tmp 24], none, [(20, Hint.imm), (24, Hint.imm)]⟩ [(25, qb (!(Event.eqb x5 x6)))] [] (by kernel_rfl) (pOp_eff (by kernel_rfl) (by kernel_rfl) (eff_prim (by kernel_rfl) (Event_eqn x5 x6 _ _))) (.dn (.thenN (.cond (!(Event.eqb x5 x6)) (by kernel_rfl) ?_ ?_))))
      · exact Sim.sr 1 [(4, qb false)] [] (.ret (.blockR (.thenR (.loopR (.blockR (.thenR .fn))))))
      · refine Sim.skip (.blockN (.thenN (.region0 (.rd 3 [(5, qj (IntKind.wrap .i64 (i3 + 1))), (16, qj (IntKind.wrap .i64 (i3 + 1))), (15, qj i3)] [] (.loopN (.pr [0, 1, 5] [] [] [(0, .one (vw Event.cod a0)), (1, .one (vw Event.cod a1)), (5, qj (IntKind.wrap .i64 (i3 + 1)))] [] ?_))))))
        exact ih_l4 (IntKind.wrap .i64 (i3 + 1))
    · exact Sim.exit (.thenX (.loopX (.blockX (.thenN (.sr 1 [(4, qb true)] [] (.ret .fn))))))

def F50 (n : Nat) (a0 : (List Event)) (a1 : (List Event)) : Option Bool :=
  if ((a0).length : Int) != ((a1).length : Int) then
    some false
  else
    F50_l4 n a0 a1 (n + 8) 0
theorem F50_ok (n : Nat) (a0 : (List Event)) (a1 : (List Event)) : ∀ r, F50 n a0 a1 = some r → D 50 [.one (vw Event.cod a0), .one (vw Event.cod a1)] [] = some (F50_e r) := by
  refine fn_to (D := D) (n := n + 8) (nt := 26) (rs := pc50_r) (c := pc50_c34) (L := [(0, .one (vw Event.cod a0)), (1, .one (vw Event.cod a1))]) (M := []) (k := 0) rfl rfl rfl rfl rfl rfl rfl ?_
  unfold F50
  refine Sim.sr 1 [(4, qb false)] [] (.seq (.sr 5 [(10, qb (((a0).length : Int) != ((a1).length : Int))), (9, qj ((a1).length : Int)), (8, .one (vw Event.cod a1)), (7, qj ((a0).length : Int)), (6, .one (vw Event.cod a0))] [] (.cond (((a0).length : Int) != ((a1).length : Int)) (by kernel_rfl) ?_ ?_)))
  · exact Sim.sr 1 [(4, qb false)] [] (.ret (.thenR .fn))
  · refine Sim.skip (.thenN (.seq (.sr 1 [(5, qj 0)] [] (.block (.loop (.pr [0, 1, 5] [] [] [(0, .one (vw Event.cod a0)), (1, .one (vw Event.cod a1)), (5, qj 0)] [] ?_))))))
    exact F50_l4_ok n a0 a1 (n + 8) 0


-- 74: vedette/vedetteref1.Get
def F74_e : (Int × Int × Int) → PV × List Ob := fun r => (.tup [.one (li .u64 r.1), .one (li .i64 r.2.1), .one (li .i64 r.2.2)], [])
def F74_j10 (n : Nat) (i5 : Int) (i6 : Int) (x8 : Int) : Option (Int × Int × Int) :=
    some (bitsI .or .u64 i5 (shlI .u64 (IntKind.wrap .u64 (bitsI .and .u8 x8 127)) (IntKind.wrap .u64 (IntKind.wrap .i64 (7 * i6)))), IntKind.wrap .i64 (i6 + 1), 0)
theorem F74_j10_ok (n : Nat) (i5 : Int) (i6 : Int) (x8 : Int) (m_l7 : Nat) : Sim Try.prog D (n + 8) pc74_c28 [(5, .one (li .u64 (bitsI .or .u64 i5 (shlI .u64 (IntKind.wrap .u64 (bitsI .and .u8 x8 127)) (IntKind.wrap .u64 (IntKind.wrap .i64 (7 * i6))))))), (6, qj i6)] [] (F74_j10 n i5 i6 x8) (QB 1 (QT Try.prog D (n + 8) pc74_c37 (QL Try.prog D (n + 8) m_l7 pc74_c39 (QB 0 (QT Try.prog D (n + 8) pc74_c45 (QF false pc74_r 0 F74_e)))))) := by
    unfold F74_j10
    exact Sim.seq (.rg [(5, .one (li .u64 (bitsI .or .u64 i5 (shlI .u64 (IntKind.wrap .u64 (bitsI .and .u8 x8 127)) (IntKind.wrap .u64 (IntKind.wrap .i64 (7 * i6))))))), (6, qj i6)] [] (.rd 6 [(4, qj 0), (3, qj (IntKind.wrap .i64 (i6 + 1))), (2, .one (li .u64 (bitsI .or .u64 i5 (shlI .u64 (IntKind.wrap .u64 (bitsI .and .u8 x8 127)) (IntKind.wrap .u64 (IntKind.wrap .i64 (7 * i6))))))), (42, qj (IntKind.wrap .i64 (i6 + 1))), (41, qj i6), (40, .one (li .u64 (bitsI .or .u64 i5 (shlI .u64 (IntKind.wrap .u64 (bitsI .and .u8 x8 127)) (IntKind.wrap .u64 (IntKind.wrap .i64 (7 * i6)))))))] [] (.thenN (.ret (.blockR (.thenR (.loopR (.blockR (.thenR .fn)))))))))

def F74_j9 (n : Nat) (i5 : Int) (i6 : Int) (x8 : Int) (rec_l7 : Int → Int → Option (Int × Int × Int)) : Option (Int × Int × Int) :=
    if ¬ (IntKind.wrap .u64 (IntKind.wrap .i64 (7 * i6)) < 0) then
      if decide (x8 < 128) then
        if x8 == 0 then
          if decide ((0 : Int) < i6) then
            some (0, 0, 11)
          else
            F74_j10 n i5 i6 x8
        else
          F74_j10 n i5 i6 x8
      else
        rec_l7 (bitsI .or .u64 i5 (shlI .u64 (IntKind.wrap .u64 (bitsI .and .u8 x8 127)) (IntKind.wrap .u64 (IntKind.wrap .i64 (7 * i6))))) (IntKind.wrap .i64 (i6 + 1))
    else none
theorem F74_j9_ok (n : Nat) (a0 : ByteArray) (i5 : Int) (i6 : Int) (x8 : Int) (rec_l7 : Int → Int → Option (Int × Int × Int)) (m_l7 : Nat) (ih_l7 : ∀ (i5 : Int) (i6 : Int), SimL Try.prog D (n + 8) m_l7 pc74_c39 [(0, qs a0), (5, .one (li .u64 i5)), (6, qj i6)] [] (rec_l7 i5 i6) (QB 0 (QT Try.prog D (n + 8) pc74_c45 (QF false pc74_r 0 F74_e)))) : Sim Try.prog D (n + 8) pc74_c33 [(0, qs a0), (5, .one (li .u64 i5)), (6, qj i6), (7, .one (li .u8 x8))] [] (F74_j9 n i5 i6 x8 rec_l7) (QB 1 (QT Try.prog D (n + 8) pc74_c37 (QL Try.prog D (n + 8) m_l7 pc74_c39 (QB 0 (QT Try.prog D (n + 8) pc74_c45 (QF false pc74_r 0 F74_e)))))) := by
    unfold F74_j9
    refine Sim.seq (.rg [(0, qs a0), (5, .one (li .u64 i5)), (6, qj i6), (7, .one (li .u8 x8))] [] (.rn 7 [(29, .one (li .u64 (IntKind.wrap .u64 (IntKind.wrap .i64 (7 * i6))))), (28, qj (IntKind.wrap .i64 (7 * i6))), (27, qj i6), (26, .one (li .u64 (IntKind.wrap .u64 (bitsI .and .u8 x8 127)))), (25, .one (li .u8 (bitsI .and .u8 x8 127))), (24, .one (li .u8 x8)), (23, .one (li .u64 i5))] [] (.guard (c := ¬ (IntKind.wrap .u64 (IntKind.wrap .i64 (7 * i6)) < 0)) ⟨some 30, POp.prim (Prim.bin BinOp.shl 89 false false) [Operand.tmp 26, Operand.tmp 29], none, []⟩ [(30, .one (li .u64 (shlI .u64 (IntKind.wrap .u64 (bitsI .and .u8 x8 127)) (IntKind.wrap .u64 (IntKind.wrap .i64 (7 * i6))))))] [] (by kernel_rfl) (fun hc => pOp_eff (by kernel_rfl) (by kernel_rfl) (eff_prim (by kernel_rfl) (pr_shl _ _ _ .u64 .u64 (IntKind.wrap .u64 (bitsI .and .u8 x8 127)) (IntKind.wrap .u64 (IntKind.wrap .i64 (7 * i6))) hc))) (.rd 2 [(5, .one (li .u64 (bitsI .or .u64 i5 (shlI .u64 (IntKind.wrap .u64 (bitsI .and .u8 x8 127)) (IntKind.wrap .u64 (IntKind.wrap .i64 (7 * i6))))))), (31, .one (li .u64 (bitsI .or .u64 i5 (shlI .u64 (IntKind.wrap .u64 (bitsI .and .u8 x8 127)) (IntKind.wrap .u64 (IntKind.wrap .i64 (7 * i6)))))))] [] (.thenN (.sr 2 [(33, qb (decide (x8 < 128))), (32, .one (li .u8 x8))] [] (.cond (decide (x8 < 128)) (by kernel_rfl) ?_ ?_)))))))
    · refine Sim.seq (.st 3 [(36, qb (x8 == 0)), (35, qb (x8 == 0)), (34, .one (li .u8 x8))] [] (.split 36 (x8 == 0) (by kernel_rfl) ?_ ?_))
      · refine SimI.rd 3 [(39, qb (decide ((0 : Int) < i6))), (38, qb (decide ((0 : Int) < i6))), (37, qj i6)] [] (.thenN (.cond (decide ((0 : Int) < i6)) (by kernel_rfl) ?_ ?_))
        · exact Sim.sr 3 [(4, qj 11), (3, qj 0), (2, .one (li .u64 0))] [] (.ret (.thenR (.blockR (.thenR (.loopR (.blockR (.thenR .fn)))))))
        · refine Sim.skip (.thenN (.pr [5, 6] [] [] [(5, .one (li .u64 (bitsI .or .u64 i5 (shlI .u64 (IntKind.wrap .u64 (bitsI .and .u8 x8 127)) (IntKind.wrap .u64 (IntKind.wrap .i64 (7 * i6))))))), (6, qj i6)] [] ?_))
          exact F74_j10_ok n i5 i6 x8 m_l7
      · refine SimI.rd 3 [(39, qb false), (38, .tup []), (37, .tup [])] [] (.thenN (.condF (by kernel_rfl) (.skip (.thenN (.pr [5, 6] [] [] [(5, .one (li .u64 (bitsI .or .u64 i5 (shlI .u64 (IntKind.wrap .u64 (bitsI .and .u8 x8 127)) (IntKind.wrap .u64 (IntKind.wrap .i64 (7 * i6))))))), (6, qj i6)] [] ?_)))))
        exact F74_j10_ok n i5 i6 x8 m_l7
    · refine Sim.skip (.blockN (.thenN (.region0 (.rd 3 [(6, qj (IntKind.wrap .i64 (i6 + 1))), (13, qj (IntKind.wrap .i64 (i6 + 1))), (12, qj i6)] [] (.loopN (.pr [0, 5, 6] [] [] [(0, qs a0), (5, .one (li .u64 (bitsI .or .u64 i5 (shlI .u64 (IntKind.wrap .u64 (bitsI .and .u8 x8 127)) (IntKind.wrap .u64 (IntKind.wrap .i64 (7 * i6))))))), (6, qj (IntKind.wrap .i64 (i6 + 1)))] [] ?_))))))
      exact ih_l7 (bitsI .or .u64 i5 (shlI .u64 (IntKind.wrap .u64 (bitsI .and .u8 x8 127)) (IntKind.wrap .u64 (IntKind.wrap .i64 (7 * i6))))) (IntKind.wrap .i64 (i6 + 1))

def F74_l7 (n : Nat) (a0 : ByteArray) : Nat → Int → Int → Option (Int × Int × Int)
  | 0, _, _ => none
  | m + 1, i5, i6 =>
    if decide (i6 < (a0.size : Int)) then
      (ix (bytesL a0) i6).bind fun (x8 : Int) =>
      if i6 == 9 then
        if decide ((1 : Int) < x8) then
          some (0, 0, 11)
        else
          F74_j9 n i5 i6 x8 (F74_l7 n a0 m)
      else
        F74_j9 n i5 i6 x8 (F74_l7 n a0 m)
    else
      some (0, 0, 10)
theorem F74_l7_ok (n : Nat) (a0 : ByteArray) : ∀ (m : Nat) (i5 : Int) (i6 : Int), SimL Try.prog D (n + 8) m pc74_c39 [(0, qs a0), (5, .one (li .u64 i5)), (6, qj i6)] [] (F74_l7 n a0 m i5 i6) (QB 0 (QT Try.prog D (n + 8) pc74_c45 (QF false pc74_r 0 F74_e))) := by
  intro m_l7
  induction m_l7 with
  | zero => intro i5 i6; exact SimL.zero'  rfl
  | succ m_l7 ih_l7 =>
    intro i5 i6
    refine SimL.succ ?_
    unfold F74_l7
    refine Sim.seq (.seq (.rg [(0, qs a0), (5, .one (li .u64 i5)), (6, qj i6)] [] (.rd 4 [(11, qb (decide (i6 < (a0.size : Int)))), (10, qj (a0.size : Int)), (9, qs a0), (8, qj i6)] [] (.thenN (.cond (decide (i6 < (a0.size : Int))) (by kernel_rfl) ?_ ?_)))))
    · refine Sim.skip (.thenN (.seq (.block (.st 2 [(15, qj i6), (14, qs a0)] [] (.bind (og := ix (bytesL a0) i6) ⟨some 16, POp.prim (Prim.index 9) [Operand.tmp 14, Operand.tmp 15], none, []⟩ (fun x8 => [(16, .one (li .u8 x8))]) (fun x8 => []) (by kernel_rfl) (fun x8 hr => pOp_eff (by kernel_rfl) (by kernel_rfl) (eff_prim (by kernel_rfl) (pr_index (s := a0) (k := .i64) (i := i6) (b := x8) Try.underlying9 hr))) (fun x8 => ?_))))))
      refine SimI.rd 1 [(7, .one (li .u8 x8))] [] (.thenN (.seq (.st 3 [(19, qb (i6 == 9)), (18, qb (i6 == 9)), (17, qj i6)] [] (.split 19 (i6 == 9) (by kernel_rfl) ?_ ?_))))
      · refine SimI.rd 3 [(22, qb (decide ((1 : Int) < x8))), (21, qb (decide ((1 : Int) < x8))), (20, .one (li .u8 x8))] [] (.thenN (.cond (decide ((1 : Int) < x8)) (by kernel_rfl) ?_ ?_))
        · exact Sim.sr 3 [(4, qj 11), (3, qj 0), (2, .one (li .u64 0))] [] (.ret (.thenR (.blockR (.thenR (.loopR (.blockR (.thenR .fn)))))))
        · refine Sim.skip (.thenN (.pr [0, 5, 6, 7] [] [] [(0, qs a0), (5, .one (li .u64 i5)), (6, qj i6), (7, .one (li .u8 x8))] [] ?_))
          exact F74_j9_ok n a0 i5 i6 x8 (F74_l7 n a0 m_l7) m_l7 ih_l7
      · refine SimI.rd 3 [(22, qb false), (21, .tup []), (20, .tup [])] [] (.thenN (.condF (by kernel_rfl) (.skip (.thenN (.pr [0, 5, 6, 7] [] [] [(0, qs a0), (5, .one (li .u64 i5)), (6, qj i6), (7, .one (li .u8 x8))] [] ?_)))))
        exact F74_j9_ok n a0 i5 i6 x8 (F74_l7 n a0 m_l7) m_l7 ih_l7
    · exact Sim.exit (.thenX (.loopX (.blockX (.thenN (.sr 3 [(4, qj 10), (3, qj 0), (2, .one (li .u64 0))] [] (.ret .fn))))))

def F74 (n : Nat) (a0 : ByteArray) : Option (Int × Int × Int) :=
  F74_l7 n a0 (n + 8) 0 0
theorem F74_ok (n : Nat) (a0 : ByteArray) : ∀ r, F74 n a0 = some r → D 74 [.one (ls a0)] [] = some (F74_e r) := by
  refine fn_to (D := D) (n := n + 8) (nt := 43) (rs := pc74_r) (c := pc74_c48) (L := [(0, qs a0)]) (M := []) (k := 0) rfl rfl rfl rfl rfl rfl rfl ?_
  unfold F74
  refine Sim.sr 3 [(4, qj 0), (3, qj 0), (2, .one (li .u64 0))] [] (.sr 1 [(5, .one (li .u64 0))] [] (.seq (.sr 1 [(6, qj 0)] [] (.block (.loop (.pr [0, 5, 6] [] [] [(0, qs a0), (5, .one (li .u64 0)), (6, qj 0)] [] ?_))))))
  exact F74_l7_ok n a0 (n + 8) 0 0


-- 58: vedette/vedetteref3.On
def F58_e : Bool → PV × List Ob := fun r => (.one (lb r), [])
def F58 (n : Nat) (a0 : Point) : Option Bool :=
  if decide ((0 : Int) ≤ a0.X) then
    if decide (a0.X < 64) then
      if decide ((0 : Int) ≤ a0.Y) then
        some (decide (a0.Y < 64))
      else
        some false
    else
      some false
  else
    some false
theorem F58_ok (n : Nat) (a0 : Point) : ∀ r, F58 n a0 = some r → D 58 [.agg [li .i64 a0.X, li .i64 a0.Y]] [] = some (F58_e r) := by
  refine fn_to (D := D) (n := n + 8) (nt := 21) (rs := pc58_r) (c := pc58_c5) (L := [(0, .agg [lj a0.X, lj a0.Y])]) (M := []) (k := 0) rfl rfl rfl rfl rfl rfl rfl ?_
  unfold F58
  refine Sim.sr 2 [(2, qb false), (1, qp 1 0)] [(1, some (.cells [lj a0.X, lj a0.Y]))] (.st 4 [(6, qb (decide ((0 : Int) ≤ a0.X))), (5, qb (decide ((0 : Int) ≤ a0.X))), (4, qj a0.X), (3, qp 1 0)] [] (.split 6 (decide ((0 : Int) ≤ a0.X)) (by kernel_rfl) ?_ ?_))
  · refine SimI.rn 5 [(11, qb (decide (a0.X < 64))), (10, qb (decide (a0.X < 64))), (9, qb (decide (a0.X < 64))), (8, qj a0.X), (7, qp 1 0)] [] (.split 11 (decide (a0.X < 64)) (by kernel_rfl) ?_ ?_)
    · refine SimI.rn 5 [(16, qb (decide ((0 : Int) ≤ a0.Y))), (15, qb (decide ((0 : Int) ≤ a0.Y))), (14, qb (decide ((0 : Int) ≤ a0.Y))), (13, qj a0.Y), (12, qp 1 1)] [] (.split 16 (decide ((0 : Int) ≤ a0.Y)) (by kernel_rfl) ?_ ?_)
      · exact SimI.rd 5 [(2, qb (decide (a0.Y < 64))), (20, qb (decide (a0.Y < 64))), (19, qb (decide (a0.Y < 64))), (18, qj a0.Y), (17, qp 1 1)] [] (.thenN (.ret .fn))
      · exact SimI.rd 5 [(2, qb false), (20, qb false), (19, .tup []), (18, .tup []), (17, .tup [])] [] (.thenN (.ret .fn))
    · exact SimI.rd 10 [(2, qb false), (20, qb false), (19, .tup []), (18, .tup []), (17, .tup []), (16, qb false), (15, qb false), (14, .tup []), (13, .tup []), (12, .tup [])] [] (.thenN (.ret .fn))
  · exact SimI.rd 15 [(2, qb false), (20, qb false), (19, .tup []), (18, .tup []), (17, .tup []), (16, qb false), (15, qb false), (14, .tup []), (13, .tup []), (12, .tup []), (11, qb false), (10, qb false), (9, .tup []), (8, .tup []), (7, .tup [])] [] (.thenN (.ret .fn))


-- 59: vedette/vedetteref6.IsField
def F59_e : Bool → PV × List Ob := fun r => (.one (lb r), [])
def F59 (n : Nat) (a0 : Field) : Option Bool :=
  if a0.N == 0 then
    some (decide ((a0.Text.size : Int) ≤ 12))
  else
    if a0.Text.toList == ByteArray.empty.toList then
      some (decide ((a0.Text.size : Int) ≤ 12))
    else
      some false
theorem F59_ok (n : Nat) (a0 : Field) : ∀ r, F59 n a0 = some r → D 59 [.agg [li .i64 a0.N, ls a0.Text]] [] = some (F59_e r) := by
  refine fn_to (D := D) (n := n + 8) (nt := 17) (rs := pc59_r) (c := pc59_c5) (L := [(0, .agg [lj a0.N, ls a0.Text])]) (M := []) (k := 0) rfl rfl rfl rfl rfl rfl rfl ?_
  unfold F59
  refine Sim.sr 2 [(2, qb false), (1, qp 1 0)] [(1, some (.cells [lj a0.N, ls a0.Text]))] (.st 4 [(6, qb (a0.N == 0)), (5, qb (a0.N == 0)), (4, qj a0.N), (3, qp 1 0)] [] (.split 6 (a0.N == 0) (by kernel_rfl) ?_ ?_))
  · exact SimI.rd 11 [(2, qb (decide ((a0.Text.size : Int) ≤ 12))), (16, qb (decide ((a0.Text.size : Int) ≤ 12))), (15, qb (decide ((a0.Text.size : Int) ≤ 12))), (14, qj (a0.Text.size : Int)), (13, qs a0.Text), (12, qp 1 1), (11, qb true), (10, qb true), (9, .tup []), (8, .tup []), (7, .tup [])] [] (.thenN (.ret .fn))
  · refine SimI.rn 5 [(11, qb (a0.Text.toList == be.toList)), (10, qb (a0.Text.toList == be.toList)), (9, qb (a0.Text.toList == be.toList)), (8, qs a0.Text), (7, qp 1 1)] [] (.split 11 (a0.Text.toList == be.toList) (by kernel_rfl) ?_ ?_)
    · exact SimI.rd 6 [(2, qb (decide ((a0.Text.size : Int) ≤ 12))), (16, qb (decide ((a0.Text.size : Int) ≤ 12))), (15, qb (decide ((a0.Text.size : Int) ≤ 12))), (14, qj (a0.Text.size : Int)), (13, qs a0.Text), (12, qp 1 1)] [] (.thenN (.ret .fn))
    · exact SimI.rd 6 [(2, qb false), (16, qb false), (15, .tup []), (14, .tup []), (13, .tup []), (12, .tup [])] [] (.thenN (.ret .fn))


-- 94: vedette/vedetteref6.IsDelta
def F94_e : Bool → PV × List Ob := fun r => (.one (lb r), [])
def F94_u10 (n : Nat) : Option Bool :=
    some true
theorem F94_u10_ok (n : Nat) (a0 : Delta) : SimL Try.prog D (n + 8) (n + 4) pc94_c32 [(1, qp 1 0), (3, qj 4)] [(1, some (.cells (Delta.cells a0)))] (F94_u10 n) (QB 0 (QT Try.prog D (n + 8) pc94_c38 (QF false pc94_r 0 F94_e))) := by
    unfold F94_u10
    exact SimL.succ (.seq (.seq (.rg [(1, qp 1 0), (3, qj 4)] [(1, some (.cells (Delta.cells a0)))] (.rd 2 [(45, qb false), (44, qj 4)] [] (.thenN (.condF (by kernel_rfl) (.exit (.thenX (.loopX (.blockX (.thenN (.sr 1 [(2, qb true)] [] (.ret .fn)))))))))))))

def F94_u8 (n : Nat) (a0 : Delta) : Option Bool :=
    (F59 n a0.F.a3).bind fun (r9 : Bool) =>
    if !(r9) then
      some false
    else
      if (bitsI .and .u8 (shrI .u8 a0.Mask 4) 1) == 0 then
        if !(Field.eqb a0.F.a3 (Field.mk 0 ByteArray.empty)) then
          some false
        else
          F94_u10 n
      else
        F94_u10 n
theorem F94_u8_ok (n : Nat) (a0 : Delta) : SimL Try.prog D (n + 8) (n + 5) pc94_c32 [(1, qp 1 0), (3, qj 3)] [(1, some (.cells (Delta.cells a0)))] (F94_u8 n a0) (QB 0 (QT Try.prog D (n + 8) pc94_c38 (QF false pc94_r 0 F94_e))) := by
    unfold F94_u8
    refine SimL.succ (.seq (.seq (.rg [(1, qp 1 0), (3, qj 3)] [(1, some (.cells (Delta.cells a0)))] (.rd 2 [(45, qb true), (44, qj 3)] [] (.thenN (.condT (by kernel_rfl) (.skip (.thenN (.seq (.block (.st 4 [(51, .agg [lj a0.F.a3.N, ls a0.F.a3.Text]), (50, qp 1 10), (49, qp 1 4), (48, qj 3)] [] (.cl 52 true [[]] 59 [Operand.tmp 51] none (fun r9 => qb r9) [.agg [lj a0.F.a3.N, ls a0.F.a3.Text]] (F59_ok n a0.F.a3) (fun r9 => ?_)))))))))))))
    refine SimI.rn 2 [(54, qb (!(r9))), (53, qb (!(r9)))] [] (.split 54 (!(r9)) (by kernel_rfl) ?_ ?_)
    · exact SimI.rd 17 [(71, qb true), (70, .tup []), (69, .tup []), (68, .tup []), (67, .tup []), (66, .tup []), (65, .tup []), (64, .tup []), (63, .tup []), (62, .tup []), (61, .tup []), (60, .tup []), (59, .tup []), (58, .tup []), (57, .tup []), (56, .tup []), (55, .tup [])] [] (.thenN (.condT (by kernel_rfl) (.sr 1 [(2, qb false)] [] (.ret (.blockR (.thenR (.loopR (.blockR (.thenR .fn)))))))))
    · refine SimI.rn 9 [(63, qb ((bitsI .and .u8 (shrI .u8 a0.Mask 4) 1) == 0)), (62, qb ((bitsI .and .u8 (shrI .u8 a0.Mask 4) 1) == 0)), (61, .one (li .u8 (bitsI .and .u8 (shrI .u8 a0.Mask 4) 1))), (60, .one (li .u8 (shrI .u8 a0.Mask 4))), (59, .one (li .u64 4)), (58, qj 4), (57, qj 3), (56, .one (li .u8 a0.Mask)), (55, qp 1 1)] [] (.split 63 ((bitsI .and .u8 (shrI .u8 a0.Mask 4) 1) == 0) (by kernel_rfl) ?_ ?_)
      · refine SimI.rn 5 [(68, .agg [lj 0, ls be]), (67, .agg [lj a0.F.a3.N, ls a0.F.a3.Text]), (66, qp 1 10), (65, qp 1 4), (64, qj 3)] [] (.step ⟨some 69, POp.prim (Prim.bin BinOp.neq 25 false false) [Operand.tmp 67, Operand.tmp 68], some (63, true), []⟩ [(69, qb (!(Field.eqb a0.F.a3 (Field.mk 0 be))))] [] (by kernel_rfl) (pOp_eff (by kernel_rfl) (by kernel_rfl) (eff_prim (by kernel_rfl) (Field_eqn a0.F.a3 (Field.mk 0 be) _ _))) (.rd 2 [(71, qb (!(Field.eqb a0.F.a3 (Field.mk 0 be)))), (70, qb (!(Field.eqb a0.F.a3 (Field.mk 0 be))))] [] (.thenN (.cond (!(Field.eqb a0.F.a3 (Field.mk 0 be))) (by kernel_rfl) ?_ ?_))))
        · exact Sim.sr 1 [(2, qb false)] [] (.ret (.blockR (.thenR (.loopR (.blockR (.thenR .fn))))))
        · refine Sim.skip (.blockN (.thenN (.region0 (.rd 3 [(3, qj 4), (47, qj 4), (46, qj 3)] [] (.loopN (.pr [1, 3] [1] [] [(1, qp 1 0), (3, qj 4)] [(1, some (.cells (Delta.cells a0)))] ?_))))))
          exact F94_u10_ok n a0
      · refine SimI.rd 8 [(71, qb false), (70, qb false), (69, .tup []), (68, .tup []), (67, .tup []), (66, .tup []), (65, .tup []), (64, .tup [])] [] (.thenN (.condF (by kernel_rfl) (.skip (.blockN (.thenN (.region0 (.rd 3 [(3, qj 4), (47, qj 4), (46, qj 3)] [] (.loopN (.pr [1, 3] [1] [] [(1, qp 1 0), (3, qj 4)] [(1, some (.cells (Delta.cells a0)))] ?_)))))))))
        exact F94_u10_ok n a0

def F94_u6 (n : Nat) (a0 : Delta) : Option Bool :=
    (F59 n a0.F.a2).bind fun (r7 : Bool) =>
    if !(r7) then
      some false
    else
      if (bitsI .and .u8 (shrI .u8 a0.Mask 3) 1) == 0 then
        if !(Field.eqb a0.F.a2 (Field.mk 0 ByteArray.empty)) then
          some false
        else
          F94_u8 n a0
      else
        F94_u8 n a0
theorem F94_u6_ok (n : Nat) (a0 : Delta) : SimL Try.prog D (n + 8) (n + 6) pc94_c32 [(1, qp 1 0), (3, qj 2)] [(1, some (.cells (Delta.cells a0)))] (F94_u6 n a0) (QB 0 (QT Try.prog D (n + 8) pc94_c38 (QF false pc94_r 0 F94_e))) := by
    unfold F94_u6
    refine SimL.succ (.seq (.seq (.rg [(1, qp 1 0), (3, qj 2)] [(1, some (.cells (Delta.cells a0)))] (.rd 2 [(45, qb true), (44, qj 2)] [] (.thenN (.condT (by kernel_rfl) (.skip (.thenN (.seq (.block (.st 4 [(51, .agg [lj a0.F.a2.N, ls a0.F.a2.Text]), (50, qp 1 8), (49, qp 1 4), (48, qj 2)] [] (.cl 52 true [[]] 59 [Operand.tmp 51] none (fun r7 => qb r7) [.agg [lj a0.F.a2.N, ls a0.F.a2.Text]] (F59_ok n a0.F.a2) (fun r7 => ?_)))))))))))))
    refine SimI.rn 2 [(54, qb (!(r7))), (53, qb (!(r7)))] [] (.split 54 (!(r7)) (by kernel_rfl) ?_ ?_)
    · exact SimI.rd 17 [(71, qb true), (70, .tup []), (69, .tup []), (68, .tup []), (67, .tup []), (66, .tup []), (65, .tup []), (64, .tup []), (63, .tup []), (62, .tup []), (61, .tup []), (60, .tup []), (59, .tup []), (58, .tup []), (57, .tup []), (56, .tup []), (55, .tup [])] [] (.thenN (.condT (by kernel_rfl) (.sr 1 [(2, qb false)] [] (.ret (.blockR (.thenR (.loopR (.blockR (.thenR .fn)))))))))
    · refine SimI.rn 9 [(63, qb ((bitsI .and .u8 (shrI .u8 a0.Mask 3) 1) == 0)), (62, qb ((bitsI .and .u8 (shrI .u8 a0.Mask 3) 1) == 0)), (61, .one (li .u8 (bitsI .and .u8 (shrI .u8 a0.Mask 3) 1))), (60, .one (li .u8 (shrI .u8 a0.Mask 3))), (59, .one (li .u64 3)), (58, qj 3), (57, qj 2), (56, .one (li .u8 a0.Mask)), (55, qp 1 1)] [] (.split 63 ((bitsI .and .u8 (shrI .u8 a0.Mask 3) 1) == 0) (by kernel_rfl) ?_ ?_)
      · refine SimI.rn 5 [(68, .agg [lj 0, ls be]), (67, .agg [lj a0.F.a2.N, ls a0.F.a2.Text]), (66, qp 1 8), (65, qp 1 4), (64, qj 2)] [] (.step ⟨some 69, POp.prim (Prim.bin BinOp.neq 25 false false) [Operand.tmp 67, Operand.tmp 68], some (63, true), []⟩ [(69, qb (!(Field.eqb a0.F.a2 (Field.mk 0 be))))] [] (by kernel_rfl) (pOp_eff (by kernel_rfl) (by kernel_rfl) (eff_prim (by kernel_rfl) (Field_eqn a0.F.a2 (Field.mk 0 be) _ _))) (.rd 2 [(71, qb (!(Field.eqb a0.F.a2 (Field.mk 0 be)))), (70, qb (!(Field.eqb a0.F.a2 (Field.mk 0 be))))] [] (.thenN (.cond (!(Field.eqb a0.F.a2 (Field.mk 0 be))) (by kernel_rfl) ?_ ?_))))
        · exact Sim.sr 1 [(2, qb false)] [] (.ret (.blockR (.thenR (.loopR (.blockR (.thenR .fn))))))
        · refine Sim.skip (.blockN (.thenN (.region0 (.rd 3 [(3, qj 3), (47, qj 3), (46, qj 2)] [] (.loopN (.pr [1, 3] [1] [] [(1, qp 1 0), (3, qj 3)] [(1, some (.cells (Delta.cells a0)))] ?_))))))
          exact F94_u8_ok n a0
      · refine SimI.rd 8 [(71, qb false), (70, qb false), (69, .tup []), (68, .tup []), (67, .tup []), (66, .tup []), (65, .tup []), (64, .tup [])] [] (.thenN (.condF (by kernel_rfl) (.skip (.blockN (.thenN (.region0 (.rd 3 [(3, qj 3), (47, qj 3), (46, qj 2)] [] (.loopN (.pr [1, 3] [1] [] [(1, qp 1 0), (3, qj 3)] [(1, some (.cells (Delta.cells a0)))] ?_)))))))))
        exact F94_u8_ok n a0

def F94_u4 (n : Nat) (a0 : Delta) : Option Bool :=
    (F59 n a0.F.a1).bind fun (r5 : Bool) =>
    if !(r5) then
      some false
    else
      if (bitsI .and .u8 (shrI .u8 a0.Mask 2) 1) == 0 then
        if !(Field.eqb a0.F.a1 (Field.mk 0 ByteArray.empty)) then
          some false
        else
          F94_u6 n a0
      else
        F94_u6 n a0
theorem F94_u4_ok (n : Nat) (a0 : Delta) : SimL Try.prog D (n + 8) (n + 7) pc94_c32 [(1, qp 1 0), (3, qj 1)] [(1, some (.cells (Delta.cells a0)))] (F94_u4 n a0) (QB 0 (QT Try.prog D (n + 8) pc94_c38 (QF false pc94_r 0 F94_e))) := by
    unfold F94_u4
    refine SimL.succ (.seq (.seq (.rg [(1, qp 1 0), (3, qj 1)] [(1, some (.cells (Delta.cells a0)))] (.rd 2 [(45, qb true), (44, qj 1)] [] (.thenN (.condT (by kernel_rfl) (.skip (.thenN (.seq (.block (.st 4 [(51, .agg [lj a0.F.a1.N, ls a0.F.a1.Text]), (50, qp 1 6), (49, qp 1 4), (48, qj 1)] [] (.cl 52 true [[]] 59 [Operand.tmp 51] none (fun r5 => qb r5) [.agg [lj a0.F.a1.N, ls a0.F.a1.Text]] (F59_ok n a0.F.a1) (fun r5 => ?_)))))))))))))
    refine SimI.rn 2 [(54, qb (!(r5))), (53, qb (!(r5)))] [] (.split 54 (!(r5)) (by kernel_rfl) ?_ ?_)
    · exact SimI.rd 17 [(71, qb true), (70, .tup []), (69, .tup []), (68, .tup []), (67, .tup []), (66, .tup []), (65, .tup []), (64, .tup []), (63, .tup []), (62, .tup []), (61, .tup []), (60, .tup []), (59, .tup []), (58, .tup []), (57, .tup []), (56, .tup []), (55, .tup [])] [] (.thenN (.condT (by kernel_rfl) (.sr 1 [(2, qb false)] [] (.ret (.blockR (.thenR (.loopR (.blockR (.thenR .fn)))))))))
    · refine SimI.rn 9 [(63, qb ((bitsI .and .u8 (shrI .u8 a0.Mask 2) 1) == 0)), (62, qb ((bitsI .and .u8 (shrI .u8 a0.Mask 2) 1) == 0)), (61, .one (li .u8 (bitsI .and .u8 (shrI .u8 a0.Mask 2) 1))), (60, .one (li .u8 (shrI .u8 a0.Mask 2))), (59, .one (li .u64 2)), (58, qj 2), (57, qj 1), (56, .one (li .u8 a0.Mask)), (55, qp 1 1)] [] (.split 63 ((bitsI .and .u8 (shrI .u8 a0.Mask 2) 1) == 0) (by kernel_rfl) ?_ ?_)
      · refine SimI.rn 5 [(68, .agg [lj 0, ls be]), (67, .agg [lj a0.F.a1.N, ls a0.F.a1.Text]), (66, qp 1 6), (65, qp 1 4), (64, qj 1)] [] (.step ⟨some 69, POp.prim (Prim.bin BinOp.neq 25 false false) [Operand.tmp 67, Operand.tmp 68], some (63, true), []⟩ [(69, qb (!(Field.eqb a0.F.a1 (Field.mk 0 be))))] [] (by kernel_rfl) (pOp_eff (by kernel_rfl) (by kernel_rfl) (eff_prim (by kernel_rfl) (Field_eqn a0.F.a1 (Field.mk 0 be) _ _))) (.rd 2 [(71, qb (!(Field.eqb a0.F.a1 (Field.mk 0 be)))), (70, qb (!(Field.eqb a0.F.a1 (Field.mk 0 be))))] [] (.thenN (.cond (!(Field.eqb a0.F.a1 (Field.mk 0 be))) (by kernel_rfl) ?_ ?_))))
        · exact Sim.sr 1 [(2, qb false)] [] (.ret (.blockR (.thenR (.loopR (.blockR (.thenR .fn))))))
        · refine Sim.skip (.blockN (.thenN (.region0 (.rd 3 [(3, qj 2), (47, qj 2), (46, qj 1)] [] (.loopN (.pr [1, 3] [1] [] [(1, qp 1 0), (3, qj 2)] [(1, some (.cells (Delta.cells a0)))] ?_))))))
          exact F94_u6_ok n a0
      · refine SimI.rd 8 [(71, qb false), (70, qb false), (69, .tup []), (68, .tup []), (67, .tup []), (66, .tup []), (65, .tup []), (64, .tup [])] [] (.thenN (.condF (by kernel_rfl) (.skip (.blockN (.thenN (.region0 (.rd 3 [(3, qj 2), (47, qj 2), (46, qj 1)] [] (.loopN (.pr [1, 3] [1] [] [(1, qp 1 0), (3, qj 2)] [(1, some (.cells (Delta.cells a0)))] ?_)))))))))
        exact F94_u6_ok n a0

def F94_j2 (n : Nat) (a0 : Delta) : Option Bool :=
    (F59 n a0.F.a0).bind fun (r3 : Bool) =>
    if !(r3) then
      some false
    else
      if (bitsI .and .u8 (shrI .u8 a0.Mask 1) 1) == 0 then
        if !(Field.eqb a0.F.a0 (Field.mk 0 ByteArray.empty)) then
          some false
        else
          F94_u4 n a0
      else
        F94_u4 n a0
theorem F94_j2_ok (n : Nat) (a0 : Delta) : Sim Try.prog D (n + 8) pc94_c39 [(1, qp 1 0)] [(1, some (.cells (Delta.cells a0)))] (F94_j2 n a0) (QF false pc94_r 0 F94_e) := by
    unfold F94_j2
    refine Sim.seq (.seq (.rg [(1, qp 1 0)] [(1, some (.cells (Delta.cells a0)))] (.rd 1 [(3, qj 0)] [] (.thenN (.block (.loop (.succ (.seq (.seq (.rg [(1, qp 1 0), (3, qj 0)] [(1, some (.cells (Delta.cells a0)))] (.rd 2 [(45, qb true), (44, qj 0)] [] (.thenN (.condT (by kernel_rfl) (.skip (.thenN (.seq (.block (.st 4 [(51, .agg [lj a0.F.a0.N, ls a0.F.a0.Text]), (50, qp 1 4), (49, qp 1 4), (48, qj 0)] [] (.cl 52 true [[]] 59 [Operand.tmp 51] none (fun r3 => qb r3) [.agg [lj a0.F.a0.N, ls a0.F.a0.Text]] (F59_ok n a0.F.a0) (fun r3 => ?_))))))))))))))))))))
    refine SimI.rn 2 [(54, qb (!(r3))), (53, qb (!(r3)))] [] (.split 54 (!(r3)) (by kernel_rfl) ?_ ?_)
    · exact SimI.rd 17 [(71, qb true), (70, .tup []), (69, .tup []), (68, .tup []), (67, .tup []), (66, .tup []), (65, .tup []), (64, .tup []), (63, .tup []), (62, .tup []), (61, .tup []), (60, .tup []), (59, .tup []), (58, .tup []), (57, .tup []), (56, .tup []), (55, .tup [])] [] (.thenN (.condT (by kernel_rfl) (.sr 1 [(2, qb false)] [] (.ret (.blockR (.thenR (.loopR (.blockR (.thenR .fn)))))))))
    · refine SimI.rn 9 [(63, qb ((bitsI .and .u8 (shrI .u8 a0.Mask 1) 1) == 0)), (62, qb ((bitsI .and .u8 (shrI .u8 a0.Mask 1) 1) == 0)), (61, .one (li .u8 (bitsI .and .u8 (shrI .u8 a0.Mask 1) 1))), (60, .one (li .u8 (shrI .u8 a0.Mask 1))), (59, .one (li .u64 1)), (58, qj 1), (57, qj 0), (56, .one (li .u8 a0.Mask)), (55, qp 1 1)] [] (.split 63 ((bitsI .and .u8 (shrI .u8 a0.Mask 1) 1) == 0) (by kernel_rfl) ?_ ?_)
      · refine SimI.rn 5 [(68, .agg [lj 0, ls be]), (67, .agg [lj a0.F.a0.N, ls a0.F.a0.Text]), (66, qp 1 4), (65, qp 1 4), (64, qj 0)] [] (.step ⟨some 69, POp.prim (Prim.bin BinOp.neq 25 false false) [Operand.tmp 67, Operand.tmp 68], some (63, true), []⟩ [(69, qb (!(Field.eqb a0.F.a0 (Field.mk 0 be))))] [] (by kernel_rfl) (pOp_eff (by kernel_rfl) (by kernel_rfl) (eff_prim (by kernel_rfl) (Field_eqn a0.F.a0 (Field.mk 0 be) _ _))) (.rd 2 [(71, qb (!(Field.eqb a0.F.a0 (Field.mk 0 be)))), (70, qb (!(Field.eqb a0.F.a0 (Field.mk 0 be))))] [] (.thenN (.cond (!(Field.eqb a0.F.a0 (Field.mk 0 be))) (by kernel_rfl) ?_ ?_))))
        · exact Sim.sr 1 [(2, qb false)] [] (.ret (.blockR (.thenR (.loopR (.blockR (.thenR .fn))))))
        · refine Sim.skip (.blockN (.thenN (.region0 (.rd 3 [(3, qj 1), (47, qj 1), (46, qj 0)] [] (.loopN (.pr [1, 3] [1] [] [(1, qp 1 0), (3, qj 1)] [(1, some (.cells (Delta.cells a0)))] ?_))))))
          exact F94_u4_ok n a0
      · refine SimI.rd 8 [(71, qb false), (70, qb false), (69, .tup []), (68, .tup []), (67, .tup []), (66, .tup []), (65, .tup []), (64, .tup [])] [] (.thenN (.condF (by kernel_rfl) (.skip (.blockN (.thenN (.region0 (.rd 3 [(3, qj 1), (47, qj 1), (46, qj 0)] [] (.loopN (.pr [1, 3] [1] [] [(1, qp 1 0), (3, qj 1)] [(1, some (.cells (Delta.cells a0)))] ?_)))))))))
        exact F94_u4_ok n a0

def F94 (n : Nat) (a0 : Delta) : Option Bool :=
  if decide (a0.ID < 0) then
    some false
  else
    if decide ((1000000 : Int) < a0.ID) then
      some false
    else
      if decide (a0.Mask < 1) then
        some false
      else
        if decide ((31 : Int) < a0.Mask) then
          some false
        else
          if (bitsI .and .u8 a0.Mask 1) != 0 then
            (F58 n a0.At).bind fun (r1 : Bool) =>
            if !(r1) then
              some false
            else
              if (bitsI .and .u8 a0.Mask 1) == 0 then
                if !(Point.eqb a0.At (Point.mk 0 0)) then
                  some false
                else
                  F94_j2 n a0
              else
                F94_j2 n a0
          else
            if (bitsI .and .u8 a0.Mask 1) == 0 then
              if !(Point.eqb a0.At (Point.mk 0 0)) then
                some false
              else
                F94_j2 n a0
            else
              F94_j2 n a0
theorem F94_ok (n : Nat) (a0 : Delta) : ∀ r, F94 n a0 = some r → D 94 [.agg (Delta.cells a0)] [] = some (F94_e r) := by
  refine fn_to (D := D) (n := n + 8) (nt := 72) (rs := pc94_r) (c := pc94_c42) (L := [(0, .agg (Delta.cells a0))]) (M := []) (k := 0) rfl rfl rfl rfl rfl rfl rfl ?_
  unfold F94
  refine Sim.sr 2 [(2, qb false), (1, qp 1 0)] [(1, some (.cells (Delta.cells a0)))] (.seq (.st 4 [(7, qb (decide (a0.ID < 0))), (6, qb (decide (a0.ID < 0))), (5, qj a0.ID), (4, qp 1 0)] [] (.split 7 (decide (a0.ID < 0)) (by kernel_rfl) ?_ ?_)))
  · exact SimI.rd 14 [(21, qb true), (20, .tup []), (19, .tup []), (18, .tup []), (17, qb true), (16, qb true), (15, .tup []), (14, .tup []), (13, .tup []), (12, qb true), (11, qb true), (10, .tup []), (9, .tup []), (8, .tup [])] [] (.thenN (.condT (by kernel_rfl) (.sr 1 [(2, qb false)] [] (.ret (.thenR .fn)))))
  · refine SimI.rn 5 [(12, qb (decide ((1000000 : Int) < a0.ID))), (11, qb (decide ((1000000 : Int) < a0.ID))), (10, qb (decide ((1000000 : Int) < a0.ID))), (9, qj a0.ID), (8, qp 1 0)] [] (.split 12 (decide ((1000000 : Int) < a0.ID)) (by kernel_rfl) ?_ ?_)
    · exact SimI.rd 9 [(21, qb true), (20, .tup []), (19, .tup []), (18, .tup []), (17, qb true), (16, qb true), (15, .tup []), (14, .tup []), (13, .tup [])] [] (.thenN (.condT (by kernel_rfl) (.sr 1 [(2, qb false)] [] (.ret (.thenR .fn)))))
    · refine SimI.rn 5 [(17, qb (decide (a0.Mask < 1))), (16, qb (decide (a0.Mask < 1))), (15, qb (decide (a0.Mask < 1))), (14, .one (li .u8 a0.Mask)), (13, qp 1 1)] [] (.split 17 (decide (a0.Mask < 1)) (by kernel_rfl) ?_ ?_)
      · exact SimI.rd 4 [(21, qb true), (20, .tup []), (19, .tup []), (18, .tup [])] [] (.thenN (.condT (by kernel_rfl) (.sr 1 [(2, qb false)] [] (.ret (.thenR .fn)))))
      · refine SimI.rd 4 [(21, qb (decide ((31 : Int) < a0.Mask))), (20, qb (decide ((31 : Int) < a0.Mask))), (19, .one (li .u8 a0.Mask)), (18, qp 1 1)] [] (.thenN (.cond (decide ((31 : Int) < a0.Mask)) (by kernel_rfl) ?_ ?_))
        · exact Sim.sr 1 [(2, qb false)] [] (.ret (.thenR .fn))
        · refine Sim.skip (.thenN (.seq (.st 5 [(26, qb ((bitsI .and .u8 a0.Mask 1) != 0)), (25, qb ((bitsI .and .u8 a0.Mask 1) != 0)), (24, .one (li .u8 (bitsI .and .u8 a0.Mask 1))), (23, .one (li .u8 a0.Mask)), (22, qp 1 1)] [] (.split 26 ((bitsI .and .u8 a0.Mask 1) != 0) (by kernel_rfl) ?_ ?_))))
          · refine SimI.rn 2 [(28, .agg [lj a0.At.X, lj a0.At.Y]), (27, qp 1 2)] [] (.cl 29 true [[]] 58 [Operand.tmp 28] (some (26, true)) (fun r1 => qb r1) [.agg [lj a0.At.X, lj a0.At.Y]] (F58_ok n a0.At) (fun r1 => ?_))
            refine SimI.rn 3 [(32, qb (!(r1))), (31, qb (!(r1))), (30, qb (!(r1)))] [] (.split 32 (!(r1)) (by kernel_rfl) ?_ ?_)
            · exact SimI.rd 11 [(43, qb true), (42, .tup []), (41, .tup []), (40, .tup []), (39, .tup []), (38, .tup []), (37, .tup []), (36, .tup []), (35, .tup []), (34, .tup []), (33, .tup [])] [] (.thenN (.condT (by kernel_rfl) (.sr 1 [(2, qb false)] [] (.ret (.thenR .fn)))))
            · refine SimI.rn 5 [(37, qb ((bitsI .and .u8 a0.Mask 1) == 0)), (36, qb ((bitsI .and .u8 a0.Mask 1) == 0)), (35, .one (li .u8 (bitsI .and .u8 a0.Mask 1))), (34, .one (li .u8 a0.Mask)), (33, qp 1 1)] [] (.split 37 ((bitsI .and .u8 a0.Mask 1) == 0) (by kernel_rfl) ?_ ?_)
              · refine SimI.rn 3 [(40, .agg [lj 0, lj 0]), (39, .agg [lj a0.At.X, lj a0.At.Y]), (38, qp 1 2)] [] (.step ⟨some 41, POp.prim (Prim.bin BinOp.neq 23 false false) [Operand.tmp 39, Operand.tmp 40], some (37, true), []⟩ [(41, qb (!(Point.eqb a0.At (Point.mk 0 0))))] [] (by kernel_rfl) (pOp_eff (by kernel_rfl) (by kernel_rfl) (eff_prim (by kernel_rfl) (Point_eqn a0.At (Point.mk 0 0) _ _))) (.rd 2 [(43, qb (!(Point.eqb a0.At (Point.mk 0 0)))), (42, qb (!(Point.eqb a0.At (Point.mk 0 0))))] [] (.thenN (.cond (!(Point.eqb a0.At (Point.mk 0 0))) (by kernel_rfl) ?_ ?_))))
                · exact Sim.sr 1 [(2, qb false)] [] (.ret (.thenR .fn))
                · refine Sim.skip (.thenN (.pr [1] [1] [] [(1, qp 1 0)] [(1, some (.cells (Delta.cells a0)))] ?_))
                  exact F94_j2_ok n a0
              · refine SimI.rd 6 [(43, qb false), (42, qb false), (41, .tup []), (40, .tup []), (39, .tup []), (38, .tup [])] [] (.thenN (.condF (by kernel_rfl) (.skip (.thenN (.pr [1] [1] [] [(1, qp 1 0)] [(1, some (.cells (Delta.cells a0)))] ?_)))))
                exact F94_j2_ok n a0
          · refine SimI.rn 11 [(37, qb ((bitsI .and .u8 a0.Mask 1) == 0)), (36, qb ((bitsI .and .u8 a0.Mask 1) == 0)), (35, .one (li .u8 (bitsI .and .u8 a0.Mask 1))), (34, .one (li .u8 a0.Mask)), (33, qp 1 1), (32, qb false), (31, qb false), (30, .tup []), (29, .tup []), (28, .tup []), (27, .tup [])] [] (.split 37 ((bitsI .and .u8 a0.Mask 1) == 0) (by kernel_rfl) ?_ ?_)
            · refine SimI.rn 3 [(40, .agg [lj 0, lj 0]), (39, .agg [lj a0.At.X, lj a0.At.Y]), (38, qp 1 2)] [] (.step ⟨some 41, POp.prim (Prim.bin BinOp.neq 23 false false) [Operand.tmp 39, Operand.tmp 40], some (37, true), []⟩ [(41, qb (!(Point.eqb a0.At (Point.mk 0 0))))] [] (by kernel_rfl) (pOp_eff (by kernel_rfl) (by kernel_rfl) (eff_prim (by kernel_rfl) (Point_eqn a0.At (Point.mk 0 0) _ _))) (.rd 2 [(43, qb (!(Point.eqb a0.At (Point.mk 0 0)))), (42, qb (!(Point.eqb a0.At (Point.mk 0 0))))] [] (.thenN (.cond (!(Point.eqb a0.At (Point.mk 0 0))) (by kernel_rfl) ?_ ?_))))
              · exact Sim.sr 1 [(2, qb false)] [] (.ret (.thenR .fn))
              · refine Sim.skip (.thenN (.pr [1] [1] [] [(1, qp 1 0)] [(1, some (.cells (Delta.cells a0)))] ?_))
                exact F94_j2_ok n a0
            · refine SimI.rd 6 [(43, qb false), (42, qb false), (41, .tup []), (40, .tup []), (39, .tup []), (38, .tup [])] [] (.thenN (.condF (by kernel_rfl) (.skip (.thenN (.pr [1] [1] [] [(1, qp 1 0)] [(1, some (.cells (Delta.cells a0)))] ?_)))))
              exact F94_j2_ok n a0


-- 106: vedette/vedetteref6.number
def F106_e : (Int × Int × Int) → PV × List Ob := fun r => (.tup [.one (li .i64 r.1), .one (li .i64 r.2.1), .one (li .i64 r.2.2)], [])
def F106 (n : Nat) (a0 : ByteArray) (a1 : Int) (a2 : Int) : Option (Int × Int × Int) :=
  if 0 ≤ (a1 : Int) ∧ (a1 : Int) ≤ (a0.size : Int) then
    (F74 n (a0.extract a1.toNat a0.size)).bind fun (r1 : (Int × Int × Int)) =>
    if r1.2.2 != 0 then
      some (0, a1, r1.2.2)
    else
      if decide (a2 < r1.1) then
        some (IntKind.wrap .i64 (IntKind.wrap .i64 a2 + 1), IntKind.wrap .i64 (a1 + r1.2.1), 0)
      else
        some (IntKind.wrap .i64 r1.1, IntKind.wrap .i64 (a1 + r1.2.1), 0)
  else none
theorem F106_ok (n : Nat) (a0 : ByteArray) (a1 : Int) (a2 : Int) : ∀ r, F106 n a0 a1 a2 = some r → D 106 [.one (ls a0), .one (li .i64 a1), .one (li .u64 a2)] [] = some (F106_e r) := by
  refine fn_to (D := D) (n := n + 8) (nt := 38) (rs := pc106_r) (c := pc106_c23) (L := [(0, qs a0), (1, qj a1), (2, .one (li .u64 a2))]) (M := []) (k := 0) rfl rfl rfl rfl rfl rfl rfl ?_
  unfold F106
  refine Sim.sr 3 [(8, qj 0), (7, qj 0), (6, qj 0)] [] (.st 2 [(14, qj a1), (13, qs a0)] [] (.guard (c := 0 ≤ (a1 : Int) ∧ (a1 : Int) ≤ (a0.size : Int)) ⟨some 15, POp.prim (Prim.slice 9 true false) [Operand.tmp 13, Operand.tmp 14], none, []⟩ [(15, qs (a0.extract a1.toNat a0.size))] [] (by kernel_rfl) (fun hc => pOp_eff (by kernel_rfl) (by kernel_rfl) (eff_prim (by kernel_rfl) (pr_cutL (s := a0) (k := .i64) (a := a1) Try.underlying9 hc))) (.cl 16 true [[]] 74 [Operand.tmp 15] none (fun r1 => .tup [.one (li .u64 r1.1), qj r1.2.1, qj r1.2.2]) [qs (a0.extract a1.toNat a0.size)] (F74_ok n (a0.extract a1.toNat a0.size)) (fun r1 => ?_))))
  refine SimI.rd 7 [(11, qj r1.2.2), (10, qj r1.2.1), (9, .one (li .u64 r1.1)), (19, qj r1.2.2), (18, qj r1.2.1), (17, .one (li .u64 r1.1)), (12, .tup [.one (li .u64 r1.1), qj r1.2.1, qj r1.2.2])] [] (.thenN (.seq (.sr 2 [(21, qb (r1.2.2 != 0)), (20, qj r1.2.2)] [] (.cond (r1.2.2 != 0) (by kernel_rfl) ?_ ?_))))
  · exact Sim.sr 5 [(8, qj r1.2.2), (7, qj a1), (6, qj 0), (23, qj r1.2.2), (22, qj a1)] [] (.ret (.thenR .fn))
  · refine Sim.skip (.thenN (.seq (.sr 3 [(26, qb (decide (a2 < r1.1))), (25, .one (li .u64 a2)), (24, .one (li .u64 r1.1))] [] (.cond (decide (a2 < r1.1)) (by kernel_rfl) ?_ ?_))))
    · exact Sim.sr 9 [(8, qj 0), (7, qj (IntKind.wrap .i64 (a1 + r1.2.1))), (6, qj (IntKind.wrap .i64 (IntKind.wrap .i64 a2 + 1))), (32, qj (IntKind.wrap .i64 (a1 + r1.2.1))), (31, qj r1.2.1), (30, qj a1), (29, qj (IntKind.wrap .i64 (IntKind.wrap .i64 a2 + 1))), (28, qj (IntKind.wrap .i64 a2)), (27, .one (li .u64 a2))] [] (.ret (.thenR .fn))
    · exact Sim.skip (.thenN (.sr 8 [(8, qj 0), (7, qj (IntKind.wrap .i64 (a1 + r1.2.1))), (6, qj (IntKind.wrap .i64 r1.1)), (37, qj (IntKind.wrap .i64 (a1 + r1.2.1))), (36, qj r1.2.1), (35, qj a1), (34, qj (IntKind.wrap .i64 r1.1)), (33, .one (li .u64 r1.1))] [] (.ret .fn)))


-- 107: vedette/vedetteref1.Texts
def F107_e : (ByteArray × Int × Int) → PV × List Ob := fun r => (.tup [.one (ls r.1), .one (li .i64 r.2.1), .one (li .i64 r.2.2)], [])
def F107 (n : Nat) (a0 : ByteArray) (a1 : Int) : Option (ByteArray × Int × Int) :=
  (F74 n a0).bind fun (r1 : (Int × Int × Int)) =>
  if r1.2.2 != 0 then
    some (ByteArray.empty, 0, r1.2.2)
  else
    if decide (IntKind.wrap .u64 (imax 0 a1) < r1.1) then
      some (ByteArray.empty, 0, 13)
    else
      if decide (IntKind.wrap .u64 (IntKind.wrap .i64 ((a0.size : Int) - r1.2.1)) < r1.1) then
        some (ByteArray.empty, 0, 10)
      else
        if 0 ≤ (r1.2.1 : Int) ∧ (r1.2.1 : Int) ≤ IntKind.wrap .i64 (r1.2.1 + IntKind.wrap .i64 r1.1) ∧ IntKind.wrap .i64 (r1.2.1 + IntKind.wrap .i64 r1.1) ≤ (a0.size : Int) then
          some (a0.extract r1.2.1.toNat (IntKind.wrap .i64 (r1.2.1 + IntKind.wrap .i64 r1.1)).toNat, IntKind.wrap .i64 (r1.2.1 + IntKind.wrap .i64 r1.1), 0)
        else none
theorem F107_ok (n : Nat) (a0 : ByteArray) (a1 : Int) : ∀ r, F107 n a0 a1 = some r → D 107 [.one (ls a0), .one (li .i64 a1)] [] = some (F107_e r) := by
  refine fn_to (D := D) (n := n + 8) (nt := 45) (rs := pc107_r) (c := pc107_c28) (L := [(0, qs a0), (1, qj a1)]) (M := []) (k := 0) rfl rfl rfl rfl rfl rfl rfl ?_
  unfold F107
  refine Sim.sr 3 [(6, qj 0), (5, qj 0), (4, qs be)] [] (.st 1 [(11, qs a0)] [] (.cl 12 true [[]] 74 [Operand.tmp 11] none (fun r1 => .tup [.one (li .u64 r1.1), qj r1.2.1, qj r1.2.2]) [qs a0] (F74_ok n a0) (fun r1 => ?_)))
  refine SimI.rd 7 [(9, qj r1.2.2), (8, qj r1.2.1), (7, .one (li .u64 r1.1)), (15, qj r1.2.2), (14, qj r1.2.1), (13, .one (li .u64 r1.1)), (10, .tup [.one (li .u64 r1.1), qj r1.2.1, qj r1.2.2])] [] (.thenN (.seq (.block (.sr 3 [(16, qb (r1.2.2 != 0)), (18, qb (r1.2.2 != 0)), (17, qj r1.2.2)] [] (.cond (r1.2.2 != 0) (by kernel_rfl) ?_ ?_)))))
  · exact Sim.sr 4 [(6, qj r1.2.2), (5, qj 0), (4, qs be), (19, qj r1.2.2)] [] (.ret (.blockR (.thenR .fn)))
  · refine Sim.sr 6 [(20, qb (decide (IntKind.wrap .u64 (imax 0 a1) < r1.1))), (25, qb (decide (IntKind.wrap .u64 (imax 0 a1) < r1.1))), (24, .one (li .u64 (IntKind.wrap .u64 (imax 0 a1)))), (23, qj (imax 0 a1)), (22, qj a1), (21, .one (li .u64 r1.1))] [] (.cond (decide (IntKind.wrap .u64 (imax 0 a1) < r1.1)) (by kernel_rfl) ?_ ?_)
    · exact Sim.sr 3 [(6, qj 13), (5, qj 0), (4, qs be)] [] (.ret (.blockR (.thenR .fn)))
    · refine Sim.sr 8 [(26, qb (decide (IntKind.wrap .u64 (IntKind.wrap .i64 ((a0.size : Int) - r1.2.1)) < r1.1))), (33, qb (decide (IntKind.wrap .u64 (IntKind.wrap .i64 ((a0.size : Int) - r1.2.1)) < r1.1))), (32, .one (li .u64 (IntKind.wrap .u64 (IntKind.wrap .i64 ((a0.size : Int) - r1.2.1))))), (31, qj (IntKind.wrap .i64 ((a0.size : Int) - r1.2.1))), (30, qj r1.2.1), (29, qj (a0.size : Int)), (28, qs a0), (27, .one (li .u64 r1.1))] [] (.cond (decide (IntKind.wrap .u64 (IntKind.wrap .i64 ((a0.size : Int) - r1.2.1)) < r1.1)) (by kernel_rfl) ?_ ?_)
      · exact Sim.sr 3 [(6, qj 10), (5, qj 0), (4, qs be)] [] (.ret (.blockR (.thenR .fn)))
      · exact Sim.skip (.blockN (.thenN (.st 6 [(39, qj (IntKind.wrap .i64 (r1.2.1 + IntKind.wrap .i64 r1.1))), (38, qj (IntKind.wrap .i64 r1.1)), (37, .one (li .u64 r1.1)), (36, qj r1.2.1), (35, qj r1.2.1), (34, qs a0)] [] (.guard (c := 0 ≤ (r1.2.1 : Int) ∧ (r1.2.1 : Int) ≤ IntKind.wrap .i64 (r1.2.1 + IntKind.wrap .i64 r1.1) ∧ IntKind.wrap .i64 (r1.2.1 + IntKind.wrap .i64 r1.1) ≤ (a0.size : Int)) ⟨some 40, POp.prim (Prim.slice 9 true true) [Operand.tmp 34, Operand.tmp 35, Operand.tmp 39], none, []⟩ [(40, qs (a0.extract r1.2.1.toNat (IntKind.wrap .i64 (r1.2.1 + IntKind.wrap .i64 r1.1)).toNat))] [] (by kernel_rfl) (fun hc => pOp_eff (by kernel_rfl) (by kernel_rfl) (eff_prim (by kernel_rfl) (pr_cutS (s := a0) (k := .i64) (l := .i64) (a := r1.2.1) (b := IntKind.wrap .i64 (r1.2.1 + IntKind.wrap .i64 r1.1)) Try.underlying9 hc))) (.rd 7 [(6, qj 0), (5, qj (IntKind.wrap .i64 (r1.2.1 + IntKind.wrap .i64 r1.1))), (4, qs (a0.extract r1.2.1.toNat (IntKind.wrap .i64 (r1.2.1 + IntKind.wrap .i64 r1.1)).toNat)), (44, qj (IntKind.wrap .i64 (r1.2.1 + IntKind.wrap .i64 r1.1))), (43, qj (IntKind.wrap .i64 r1.1)), (42, .one (li .u64 r1.1)), (41, qj r1.2.1)] [] (.thenN (.ret .fn)))))))


-- 119: vedette/vedetteref1.Zag
def F119_e : Int → PV × List Ob := fun r => (.one (li .i64 r), [])
def F119 (n : Nat) (a0 : Int) : Option Int :=
  some (bitsI .xor .i64 (IntKind.wrap .i64 (shrI .u64 a0 1)) (IntKind.wrap .i64 (0 - (IntKind.wrap .i64 (bitsI .and .u64 a0 1)))))
theorem F119_ok (n : Nat) (a0 : Int) : ∀ r, F119 n a0 = some r → D 119 [.one (li .u64 a0)] [] = some (F119_e r) := by
  refine fn_to (D := D) (n := n + 8) (nt := 11) (rs := pc119_r) (c := pc119_c5) (L := [(0, .one (li .u64 a0))]) (M := []) (k := 0) rfl rfl rfl rfl rfl rfl rfl ?_
  unfold F119
  exact Sim.sr 1 [(2, qj 0)] [] (.sr 9 [(2, qj (bitsI .xor .i64 (IntKind.wrap .i64 (shrI .u64 a0 1)) (IntKind.wrap .i64 (0 - (IntKind.wrap .i64 (bitsI .and .u64 a0 1)))))), (10, qj (bitsI .xor .i64 (IntKind.wrap .i64 (shrI .u64 a0 1)) (IntKind.wrap .i64 (0 - (IntKind.wrap .i64 (bitsI .and .u64 a0 1)))))), (9, qj (IntKind.wrap .i64 (0 - (IntKind.wrap .i64 (bitsI .and .u64 a0 1))))), (8, qj (IntKind.wrap .i64 (bitsI .and .u64 a0 1))), (7, .one (li .u64 (bitsI .and .u64 a0 1))), (6, .one (li .u64 a0)), (5, qj (IntKind.wrap .i64 (shrI .u64 a0 1))), (4, .one (li .u64 (shrI .u64 a0 1))), (3, .one (li .u64 a0))] [] (.ret .fn))


-- 108: vedette/vedetteref1.Ints
def F108_e : (Int × Int × Int) → PV × List Ob := fun r => (.tup [.one (li .i64 r.1), .one (li .i64 r.2.1), .one (li .i64 r.2.2)], [])
def F108 (n : Nat) (a0 : ByteArray) : Option (Int × Int × Int) :=
  (F74 n a0).bind fun (r1 : (Int × Int × Int)) =>
  (F119 n r1.1).bind fun (r2 : Int) =>
  some (r2, r1.2.1, r1.2.2)
theorem F108_ok (n : Nat) (a0 : ByteArray) : ∀ r, F108 n a0 = some r → D 108 [.one (ls a0)] [] = some (F108_e r) := by
  refine fn_to (D := D) (n := n + 8) (nt := 18) (rs := pc108_r) (c := pc108_c7) (L := [(0, qs a0)]) (M := []) (k := 0) rfl rfl rfl rfl rfl rfl rfl ?_
  unfold F108
  refine Sim.sr 3 [(4, qj 0), (3, qj 0), (2, qj 0)] [] (.st 1 [(9, qs a0)] [] (.cl 10 true [[]] 74 [Operand.tmp 9] none (fun r1 => .tup [.one (li .u64 r1.1), qj r1.2.1, qj r1.2.2]) [qs a0] (F74_ok n a0) (fun r1 => ?_)))
  refine SimI.rd 7 [(7, qj r1.2.2), (6, qj r1.2.1), (5, .one (li .u64 r1.1)), (13, qj r1.2.2), (12, qj r1.2.1), (11, .one (li .u64 r1.1)), (8, .tup [.one (li .u64 r1.1), qj r1.2.1, qj r1.2.2])] [] (.thenN (.st 1 [(14, .one (li .u64 r1.1))] [] (.cl 15 true [[]] 119 [Operand.tmp 14] none (fun r2 => qj r2) [.one (li .u64 r1.1)] (F119_ok n r1.1) (fun r2 => ?_))))
  exact SimI.rd 5 [(4, qj r1.2.2), (3, qj r1.2.1), (2, qj r2), (17, qj r1.2.2), (16, qj r1.2.1)] [] (.thenN (.ret .fn))


end Go.Proofs.Ytobeamaaifgllaa
