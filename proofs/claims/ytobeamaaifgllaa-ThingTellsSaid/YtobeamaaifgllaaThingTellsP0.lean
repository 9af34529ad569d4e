/-
  Functions of the program as functions of Lean. No condition.
-/
import Derived.Test.YtobeamaaifgllaaThingTellsE
namespace Go.Proofs.Ytobeamaaifgllaa
open Go Go.Rx
set_option maxRecDepth 100000
set_option linter.unusedVariables false
set_option linter.unusedSimpArgs false
set_option linter.unnecessarySimpa false
-- 67: vedette/geom.On
def F67_e : Bool → PV × List Ob := fun r => (.one (lb r), [])
def F67 (n : Nat) (a0 : Point) : Option Bool :=
  if decide ((0 : Int) ≤ a0.X) then
    if decide (a0.X < 64) then
      if decide ((0 : Int) ≤ a0.Y) then
        some (decide (a0.Y < 64))
      else
        some false
    else
      some false
  else
    some false
theorem F67_ok (n : Nat) (a0 : Point) : ∀ r, F67 n a0 = some r → D 67 [.agg [li .i64 a0.X, li .i64 a0.Y]] [] = some (F67_e r) := by
  refine fn_to (D := D) (n := n + 8) (nt := 21) (rs := pc67_r) (c := pc67_c5) (L := [(0, .agg [li .i64 a0.X, li .i64 a0.Y])]) (M := []) (k := 0) rfl rfl rfl rfl rfl rfl rfl ?_
  unfold F67
  refine Sim.seq ?_
  refine Sim.region0 ?_
  refine SimI.run 2 [(2, .one (lb false)), (1, .one (.ptr 1 0))] [(1, some (.cells [li .i64 a0.X, li .i64 a0.Y]))] (by kernel_rfl) ?_
  refine SimI.done (by kernel_rfl) ?_
  refine SimE.thenN ?_
  refine Sim.seq ?_
  refine Sim.region0 ?_
  refine SimI.run 4 [(6, .one (lb (decide ((0 : Int) ≤ a0.X)))), (5, .one (lb (decide ((0 : Int) ≤ a0.X)))), (4, .one (li .i64 a0.X)), (3, .one (.ptr 1 0))] [] (by kernel_rfl) ?_
  refine SimI.split 6 (decide ((0 : Int) ≤ a0.X)) (by kernel_rfl) ?_ ?_
  · refine SimI.run 5 [(11, .one (lb (decide (a0.X < 64)))), (10, .one (lb (decide (a0.X < 64)))), (9, .one (lb (decide (a0.X < 64)))), (8, .one (li .i64 a0.X)), (7, .one (.ptr 1 0))] [] (by kernel_rfl) ?_
    refine SimI.split 11 (decide (a0.X < 64)) (by kernel_rfl) ?_ ?_
    · refine SimI.run 5 [(16, .one (lb (decide ((0 : Int) ≤ a0.Y)))), (15, .one (lb (decide ((0 : Int) ≤ a0.Y)))), (14, .one (lb (decide ((0 : Int) ≤ a0.Y)))), (13, .one (li .i64 a0.Y)), (12, .one (.ptr 1 1))] [] (by kernel_rfl) ?_
      refine SimI.split 16 (decide ((0 : Int) ≤ a0.Y)) (by kernel_rfl) ?_ ?_
      · refine SimI.run 5 [(2, .one (lb (decide (a0.Y < 64)))), (20, .one (lb (decide (a0.Y < 64)))), (19, .one (lb (decide (a0.Y < 64)))), (18, .one (li .i64 a0.Y)), (17, .one (.ptr 1 1))] [] (by kernel_rfl) ?_
        refine SimI.done (by kernel_rfl) ?_
        refine SimE.thenN ?_
        refine Sim.ret ?_
        exact SimE.fin (by kernel_rfl)
      · refine SimI.run 5 [(2, .one (lb false)), (20, .one (lb false)), (19, .tup []), (18, .tup []), (17, .tup [])] [] (by kernel_rfl) ?_
        refine SimI.done (by kernel_rfl) ?_
        refine SimE.thenN ?_
        refine Sim.ret ?_
        exact SimE.fin (by kernel_rfl)
    · refine SimI.run 10 [(2, .one (lb false)), (20, .one (lb false)), (19, .tup []), (18, .tup []), (17, .tup []), (16, .one (lb false)), (15, .one (lb false)), (14, .tup []), (13, .tup []), (12, .tup [])] [] (by kernel_rfl) ?_
      refine SimI.done (by kernel_rfl) ?_
      refine SimE.thenN ?_
      refine Sim.ret ?_
      exact SimE.fin (by kernel_rfl)
  · refine SimI.run 15 [(2, .one (lb false)), (20, .one (lb false)), (19, .tup []), (18, .tup []), (17, .tup []), (16, .one (lb false)), (15, .one (lb false)), (14, .tup []), (13, .tup []), (12, .tup []), (11, .one (lb false)), (10, .one (lb false)), (9, .tup []), (8, .tup []), (7, .tup [])] [] (by kernel_rfl) ?_
    refine SimI.done (by kernel_rfl) ?_
    refine SimE.thenN ?_
    refine Sim.ret ?_
    exact SimE.fin (by kernel_rfl)


-- 70: vedette/fields.IsField
def F70_e : Bool → PV × List Ob := fun r => (.one (lb r), [])
def F70 (n : Nat) (a0 : Field) : Option Bool :=
  if a0.N == 0 then
    some (decide ((a0.Text.size : Int) ≤ 12))
  else
    if a0.Text.toList == ByteArray.empty.toList then
      some (decide ((a0.Text.size : Int) ≤ 12))
    else
      some false
theorem F70_ok (n : Nat) (a0 : Field) : ∀ r, F70 n a0 = some r → D 70 [.agg [li .i64 a0.N, ls a0.Text]] [] = some (F70_e r) := by
  refine fn_to (D := D) (n := n + 8) (nt := 17) (rs := pc70_r) (c := pc70_c5) (L := [(0, .agg [li .i64 a0.N, ls a0.Text])]) (M := []) (k := 0) rfl rfl rfl rfl rfl rfl rfl ?_
  unfold F70
  refine Sim.seq ?_
  refine Sim.region0 ?_
  refine SimI.run 2 [(2, .one (lb false)), (1, .one (.ptr 1 0))] [(1, some (.cells [li .i64 a0.N, ls a0.Text]))] (by kernel_rfl) ?_
  refine SimI.done (by kernel_rfl) ?_
  refine SimE.thenN ?_
  refine Sim.seq ?_
  refine Sim.region0 ?_
  refine SimI.run 4 [(6, .one (lb (a0.N == 0))), (5, .one (lb (a0.N == 0))), (4, .one (li .i64 a0.N)), (3, .one (.ptr 1 0))] [] (by kernel_rfl) ?_
  refine SimI.split 6 (a0.N == 0) (by kernel_rfl) ?_ ?_
  · refine SimI.run 11 [(2, .one (lb (decide ((a0.Text.size : Int) ≤ 12)))), (16, .one (lb (decide ((a0.Text.size : Int) ≤ 12)))), (15, .one (lb (decide ((a0.Text.size : Int) ≤ 12)))), (14, .one (li .i64 (a0.Text.size : Int))), (13, .one (ls a0.Text)), (12, .one (.ptr 1 1)), (11, .one (lb true)), (10, .one (lb true)), (9, .tup []), (8, .tup []), (7, .tup [])] [] (by kernel_rfl) ?_
    refine SimI.done (by kernel_rfl) ?_
    refine SimE.thenN ?_
    refine Sim.ret ?_
    exact SimE.fin (by kernel_rfl)
  · refine SimI.run 5 [(11, .one (lb (a0.Text.toList == ByteArray.empty.toList))), (10, .one (lb (a0.Text.toList == ByteArray.empty.toList))), (9, .one (lb (a0.Text.toList == ByteArray.empty.toList))), (8, .one (ls a0.Text)), (7, .one (.ptr 1 1))] [] (by kernel_rfl) ?_
    refine SimI.split 11 (a0.Text.toList == ByteArray.empty.toList) (by kernel_rfl) ?_ ?_
    · refine SimI.run 6 [(2, .one (lb (decide ((a0.Text.size : Int) ≤ 12)))), (16, .one (lb (decide ((a0.Text.size : Int) ≤ 12)))), (15, .one (lb (decide ((a0.Text.size : Int) ≤ 12)))), (14, .one (li .i64 (a0.Text.size : Int))), (13, .one (ls a0.Text)), (12, .one (.ptr 1 1))] [] (by kernel_rfl) ?_
      refine SimI.done (by kernel_rfl) ?_
      refine SimE.thenN ?_
      refine Sim.ret ?_
      exact SimE.fin (by kernel_rfl)
    · refine SimI.run 6 [(2, .one (lb false)), (16, .one (lb false)), (15, .tup []), (14, .tup []), (13, .tup []), (12, .tup [])] [] (by kernel_rfl) ?_
      refine SimI.done (by kernel_rfl) ?_
      refine SimE.thenN ?_
      refine Sim.ret ?_
      exact SimE.fin (by kernel_rfl)


-- 69: vedette/thing.Is$1
def F69_e : Bool → PV × List Ob := fun r => (.one (lb r), [])
def F69 (n : Nat) (a0 : Field) : Option Bool :=
  (F70 n a0).bind fun (r1 : Bool) =>
  some (!(r1))
theorem F69_ok (n : Nat) (a0 : Field) : ∀ r, F69 n a0 = some r → D 69 [.agg [li .i64 a0.N, ls a0.Text]] [] = some (F69_e r) := by
  refine fn_to (D := D) (n := n + 8) (nt := 6) (rs := pc69_r) (c := pc69_c5) (L := [(0, .agg [li .i64 a0.N, ls a0.Text])]) (M := []) (k := 0) rfl rfl rfl rfl rfl rfl rfl ?_
  unfold F69
  refine Sim.seq ?_
  refine Sim.region0 ?_
  refine SimI.run 2 [(2, .one (lb false)), (1, .one (.ptr 1 0))] [(1, some (.cells [li .i64 a0.N, ls a0.Text]))] (by kernel_rfl) ?_
  refine SimI.done (by kernel_rfl) ?_
  refine SimE.thenN ?_
  refine Sim.seq ?_
  refine Sim.region0 ?_
  refine SimI.run 1 [(3, .agg [li .i64 a0.N, ls a0.Text])] [] (by kernel_rfl) ?_
  refine SimI.bind (og := F70 n a0) { dst := some 4, op := POp.call true [[]] 70 [Operand.tmp 3], guard := none, hints := [] } (fun r1 => [(4, .one (lb r1))]) (fun r1 => []) (by kernel_rfl) (fun r1 hr => pOp_eff (by kernel_rfl) (by kernel_rfl) (eff_call (ARGS := [.agg [li .i64 a0.N, ls a0.Text]]) (by kernel_rfl) (args_clean (by kernel_rfl) args_nil) (F70_ok n a0 r1 hr) (by kernel_rfl))) (fun r1 => ?_)
  refine SimI.run 2 [(2, .one (lb (!(r1)))), (5, .one (lb (!(r1))))] [] (by kernel_rfl) ?_
  refine SimI.done (by kernel_rfl) ?_
  refine SimE.thenN ?_
  refine Sim.ret ?_
  exact SimE.fin (by kernel_rfl)


-- 103: slices.IndexFunc[[]vedette/api.Field,vedette/api.Field]
def F103s0_e (a0 : (List Field)) : Int → PV × List Ob := fun r => (.one (li .i64 r), [])
def F103s0_l4 (n : Nat) (a0 : (List Field)) : Nat → Int → Option Int
  | 0, _ => none
  | m + 1, i3 =>
    if decide (i3 < ((a0).length : Int)) then
      (ix a0 i3).bind fun (x5 : Field) =>
      (F69 n x5).bind fun (r6 : Bool) =>
      if r6 then
        some i3
      else
        (F103s0_l4 n a0 m) (IntKind.wrap .i64 (i3 + 1))
    else
      some (-1)
theorem F103s0_l4_ok (n : Nat) (a0 : (List Field)) : ∀ (m : Nat) (i3 : Int), SimL Try.prog D (n + 8) m pc103_c20 [(0, .one (vw Field.cod a0)), (1, .one (.val (.func (.func 69) #[] #[]))), (7, .one (li .i64 ((a0).length : Int))), (8, .one (li .i64 i3))] [] (F103s0_l4 n a0 m i3) (QB 0 (QT Try.prog D (n + 8) pc103_c26 (QF false pc103_r 0 (F103s0_e a0)))) := by
  intro m_l4
  induction m_l4 with
  | zero => intro i3; exact SimL.zero'  rfl
  | succ m_l4 ih_l4 =>
    intro i3
    refine SimL.succ ?_
    unfold F103s0_l4
    refine Sim.seq ?_
    refine Sim.region [(0, .one (vw Field.cod a0)), (1, .one (.val (.func (.func 69) #[] #[]))), (7, .one (li .i64 ((a0).length : Int))), (8, .one (li .i64 i3))] [] (by kernel_rfl) ?_
    refine SimI.run 1 [(9, .one (lb (decide (i3 < ((a0).length : Int)))))] [] (by kernel_rfl) ?_
    refine SimI.done (by kernel_rfl) ?_
    refine SimE.thenN ?_
    refine Sim.seq ?_
    refine Sim.cond (decide (i3 < ((a0).length : Int))) (by kernel_rfl) ?_ ?_
    · refine Sim.skip ?_
      refine SimE.thenN ?_
      refine Sim.seq ?_
      refine Sim.block ?_
      refine Sim.seq ?_
      refine Sim.region0 ?_
      refine SimI.run 2 [(5, .one (li .i64 i3)), (10, .one (li .i64 i3))] [] (by kernel_rfl) ?_
      refine SimI.done (by kernel_rfl) ?_
      refine SimE.thenN ?_
      refine Sim.seq ?_
      refine Sim.region0 ?_
      refine SimI.run 3 [(13, .one (li .i64 i3)), (12, .one (vw Field.cod a0)), (11, .one (.val (.func (.func 69) #[] #[])))] [] (by kernel_rfl) ?_
      refine SimI.bind (og := ix a0 i3) { dst := some 14, op := POp.iaddrS 2 (Operand.tmp 12) (Operand.tmp 13), guard := none, hints := [] } (fun x5 => [(14, .one (.eptr (Field.cod.enc x5) 0))]) (fun x5 => []) (by kernel_rfl) (fun x5 hr => pOp_eff (by kernel_rfl) (by kernel_rfl) (eff_idx (c := Field.cod) (l := a0) (k := .i64) (n := i3) (by kernel_rfl) (by kernel_rfl) (by kernel_rfl) hr)) (fun x5 => ?_)
      refine SimI.run 1 [(15, .agg [li .i64 x5.N, ls x5.Text])] [] (by kernel_rfl) ?_
      refine SimI.bind (og := F69 n x5) { dst := some 16, op := POp.callv true [[]] (Operand.tmp 11) [Operand.tmp 15], guard := none, hints := [] } (fun r6 => [(16, .one (lb r6))]) (fun r6 => []) (by kernel_rfl) (fun r6 hr => pOp_eff (by kernel_rfl) (by kernel_rfl) (eff_callvv (by kernel_rfl) (ARGS := [.agg [li .i64 x5.N, ls x5.Text]]) (by kernel_rfl) (args_clean (by kernel_rfl) args_nil) (F69_ok n x5 r6 hr) (by kernel_rfl))) (fun r6 => ?_)
      refine SimI.done (by kernel_rfl) ?_
      refine SimE.thenN ?_
      refine Sim.cond r6 (by kernel_rfl) ?_ ?_
      · refine Sim.seq ?_
        refine Sim.region0 ?_
        refine SimI.run 2 [(4, .one (li .i64 i3)), (17, .one (li .i64 i3))] [] (by kernel_rfl) ?_
        refine SimI.done (by kernel_rfl) ?_
        refine SimE.thenN ?_
        refine Sim.ret ?_
        refine SimE.blockR ?_
        refine SimE.thenR ?_
        refine SimE.loopR ?_
        refine SimE.blockR ?_
        refine SimE.thenR ?_
        exact SimE.fin (by kernel_rfl)
      · refine Sim.skip ?_
        refine SimE.blockN ?_
        refine SimE.thenN ?_
        refine Sim.region0 ?_
        refine SimI.run 2 [(8, .one (li .i64 (IntKind.wrap .i64 (i3 + 1)))), (18, .one (li .i64 (IntKind.wrap .i64 (i3 + 1))))] [] (by kernel_rfl) ?_
        refine SimI.done (by kernel_rfl) ?_
        refine SimE.loopN ?_
        refine SimL.pre (ts := [0, 1, 7, 8]) (os := []) (ow := []) [(0, .one (vw Field.cod a0)), (1, .one (.val (.func (.func 69) #[] #[]))), (7, .one (li .i64 ((a0).length : Int))), (8, .one (li .i64 (IntKind.wrap .i64 (i3 + 1))))] [] (by kernel_rfl) (by kernel_rfl) (by kernel_rfl) ?_
        exact ih_l4 (IntKind.wrap .i64 (i3 + 1))
    · refine Sim.exit ?_
      refine SimE.thenX ?_
      refine SimE.loopX ?_
      refine SimE.blockX ?_
      refine SimE.thenN ?_
      refine Sim.seq ?_
      refine Sim.region0 ?_
      refine SimI.run 1 [(4, .one (li .i64 (-1)))] [] (by kernel_rfl) ?_
      refine SimI.done (by kernel_rfl) ?_
      refine SimE.thenN ?_
      refine Sim.ret ?_
      exact SimE.fin (by kernel_rfl)

def F103s0 (n : Nat) (a0 : (List Field)) : Option Int :=
  F103s0_l4 n a0 (n + 8) 0
theorem F103s0_ok (n : Nat) (a0 : (List Field)) : ∀ r, F103s0 n a0 = some r → D 103 [.one (vw Field.cod a0), .one (.val (.func (.func 69) #[] #[]))] [] = some ((F103s0_e a0) r) := by
  refine fn_to (D := D) (n := n + 8) (nt := 19) (rs := pc103_r) (c := pc103_c28) (L := [(0, .one (vw Field.cod a0)), (1, .one (.val (.func (.func 69) #[] #[])))]) (M := []) (k := 0) rfl rfl rfl rfl rfl rfl rfl ?_
  unfold F103s0
  refine Sim.seq ?_
  refine Sim.region0 ?_
  refine SimI.run 1 [(4, .one (li .i64 0))] [] (by kernel_rfl) ?_
  refine SimI.done (by kernel_rfl) ?_
  refine SimE.thenN ?_
  refine Sim.seq ?_
  refine Sim.seq ?_
  refine Sim.region0 ?_
  refine SimI.run 3 [(8, .one (li .i64 0)), (7, .one (li .i64 ((a0).length : Int))), (6, .one (vw Field.cod a0))] [] (by kernel_rfl) ?_
  refine SimI.done (by kernel_rfl) ?_
  refine SimE.thenN ?_
  refine Sim.block ?_
  refine Sim.loop ?_
  refine SimL.pre (ts := [0, 1, 7, 8]) (os := []) (ow := []) [(0, .one (vw Field.cod a0)), (1, .one (.val (.func (.func 69) #[] #[]))), (7, .one (li .i64 ((a0).length : Int))), (8, .one (li .i64 0))] [] (by kernel_rfl) (by kernel_rfl) (by kernel_rfl) ?_
  exact F103s0_l4_ok n a0 (n + 8) 0


-- 68: slices.ContainsFunc[[]vedette/api.Field,vedette/api.Field]
def F68s0_e (a0 : (List Field)) : Bool → PV × List Ob := fun r => (.one (lb r), [])
def F68s0 (n : Nat) (a0 : (List Field)) : Option Bool :=
  (F103s0 n a0).bind fun (r1 : Int) =>
  some (decide ((0 : Int) ≤ r1))
theorem F68s0_ok (n : Nat) (a0 : (List Field)) : ∀ r, F68s0 n a0 = some r → D 68 [.one (vw Field.cod a0), .one (.val (.func (.func 69) #[] #[]))] [] = some ((F68s0_e a0) r) := by
  refine fn_to (D := D) (n := n + 8) (nt := 9) (rs := pc68_r) (c := pc68_c5) (L := [(0, .one (vw Field.cod a0)), (1, .one (.val (.func (.func 69) #[] #[])))]) (M := []) (k := 0) rfl rfl rfl rfl rfl rfl rfl ?_
  unfold F68s0
  refine Sim.seq ?_
  refine Sim.region0 ?_
  refine SimI.run 1 [(4, .one (lb false))] [] (by kernel_rfl) ?_
  refine SimI.done (by kernel_rfl) ?_
  refine SimE.thenN ?_
  refine Sim.seq ?_
  refine Sim.region0 ?_
  refine SimI.run 2 [(6, .one (.val (.func (.func 69) #[] #[]))), (5, .one (vw Field.cod a0))] [] (by kernel_rfl) ?_
  refine SimI.bind (og := F103s0 n a0) { dst := some 7, op := POp.gcall false false [300000, 300001, 300002, 300003, 300004, 300005, 300006, 300007] [[(0, 2)], []] 103 [Operand.tmp 5, Operand.tmp 6], guard := none, hints := [] } (fun r1 => [(7, .one (li .i64 r1))]) (fun r1 => []) (by kernel_rfl) (fun r1 hr => pOp_eff (by kernel_rfl) (by kernel_rfl) (eff_gcall (ks := []) (rks := []) (new := []) (ARGS := [.one (vw Field.cod a0), .one (.val (.func (.func 69) #[] #[]))]) (args1 := [.one (vw Field.cod a0), .one (.val (.func (.func 69) #[] #[]))]) (args2 := [.one (vw Field.cod a0), .one (.val (.func (.func 69) #[] #[]))]) (os := []) (os' := []) (os1 := []) (res := .one (li .i64 r1)) (res1 := .one (li .i64 r1)) (r := .one (li .i64 r1)) (N := []) (by kernel_rfl) (readA_ow (readA_keep (by kernel_rfl) (readA_keep (by kernel_rfl) (readA_nil)))) (by kernel_rfl) (by kernel_rfl) (by kernel_rfl) (by kernel_rfl) (F103s0_ok n a0 r1 hr) (by kernel_rfl) (by kernel_rfl) (by kernel_rfl) rfl (by kernel_rfl) (by kernel_rfl) (by kernel_rfl))) (fun r1 => ?_)
  refine SimI.run 2 [(4, .one (lb (decide ((0 : Int) ≤ r1)))), (8, .one (lb (decide ((0 : Int) ≤ r1))))] [] (by kernel_rfl) ?_
  refine SimI.done (by kernel_rfl) ?_
  refine SimE.thenN ?_
  refine Sim.ret ?_
  exact SimE.fin (by kernel_rfl)


-- 24: vedette/thing.Is
def F24_e : Bool → PV × List Ob := fun r => (.one (lb r), [])
def F24 (n : Nat) (a0 : Thing) : Option Bool :=
  if decide ((0 : Int) ≤ a0.ID) then
    if decide (a0.ID ≤ 1000000) then
      (F67 n a0.At).bind fun (r1 : Bool) =>
      if r1 then
        (F68s0 n [a0.F.a0, a0.F.a1, a0.F.a2, a0.F.a3]).bind fun (r2 : Bool) =>
        some (!(r2))
      else
        some false
    else
      some false
  else
    some false
theorem F24_ok (n : Nat) (a0 : Thing) : ∀ r, F24 n a0 = some r → D 24 [.agg (Thing.cells a0)] [] = some (F24_e r) := by
  refine fn_to (D := D) (n := n + 8) (nt := 22) (rs := pc24_r) (c := pc24_c5) (L := [(0, .agg (Thing.cells a0))]) (M := []) (k := 0) rfl rfl rfl rfl rfl rfl rfl ?_
  unfold F24
  refine Sim.seq ?_
  refine Sim.region0 ?_
  refine SimI.run 2 [(2, .one (lb false)), (1, .one (.ptr 1 0))] [(1, some (.cells (Thing.cells a0)))] (by kernel_rfl) ?_
  refine SimI.done (by kernel_rfl) ?_
  refine SimE.thenN ?_
  refine Sim.seq ?_
  refine Sim.region0 ?_
  refine SimI.run 4 [(6, .one (lb (decide ((0 : Int) ≤ a0.ID)))), (5, .one (lb (decide ((0 : Int) ≤ a0.ID)))), (4, .one (li .i64 a0.ID)), (3, .one (.ptr 1 0))] [] (by kernel_rfl) ?_
  refine SimI.split 6 (decide ((0 : Int) ≤ a0.ID)) (by kernel_rfl) ?_ ?_
  · refine SimI.run 5 [(11, .one (lb (decide (a0.ID ≤ 1000000)))), (10, .one (lb (decide (a0.ID ≤ 1000000)))), (9, .one (lb (decide (a0.ID ≤ 1000000)))), (8, .one (li .i64 a0.ID)), (7, .one (.ptr 1 0))] [] (by kernel_rfl) ?_
    refine SimI.split 11 (decide (a0.ID ≤ 1000000)) (by kernel_rfl) ?_ ?_
    · refine SimI.run 2 [(13, .agg [li .i64 a0.At.X, li .i64 a0.At.Y]), (12, .one (.ptr 1 1))] [] (by kernel_rfl) ?_
      refine SimI.bind (og := F67 n a0.At) { dst := some 14, op := POp.call true [[]] 67 [Operand.tmp 13], guard := some (11, true), hints := [] } (fun r1 => [(14, .one (lb r1))]) (fun r1 => []) (by kernel_rfl) (fun r1 hr => pOp_eff (by kernel_rfl) (by kernel_rfl) (eff_call (ARGS := [.agg [li .i64 a0.At.X, li .i64 a0.At.Y]]) (by kernel_rfl) (args_clean (by kernel_rfl) args_nil) (F67_ok n a0.At r1 hr) (by kernel_rfl))) (fun r1 => ?_)
      refine SimI.run 2 [(16, .one (lb r1)), (15, .one (lb r1))] [] (by kernel_rfl) ?_
      refine SimI.split 16 r1 (by kernel_rfl) ?_ ?_
      · refine SimI.run 2 [(18, .one (.csl 1 2 3 4)), (17, .one (.ptr 1 3))] [] (by kernel_rfl) ?_
        refine SimI.bind (og := F68s0 n [a0.F.a0, a0.F.a1, a0.F.a2, a0.F.a3]) { dst := some 19, op := POp.gcall false false [1, 300000, 300001, 300002, 300003, 300004, 300005, 300006, 300007] [[(0, 2)], []] 68 [Operand.tmp 18, Operand.func 69], guard := some (16, true), hints := [] } (fun r2 => [(19, .one (lb r2))]) (fun r2 => []) (by kernel_rfl) (fun r2 hr => pOp_eff (by kernel_rfl) (by kernel_rfl) (eff_gcall (ks := []) (rks := [1]) (new := []) (ARGS := [.one (.csl 1 2 3 4), .one (.val (.func (.func 69) #[] #[]))]) (args1 := [.one (vw Field.cod [a0.F.a0, a0.F.a1, a0.F.a2, a0.F.a3]), .one (.val (.func (.func 69) #[] #[]))]) (args2 := [.one (vw Field.cod [a0.F.a0, a0.F.a1, a0.F.a2, a0.F.a3]), .one (.val (.func (.func 69) #[] #[]))]) (os := []) (os' := []) (os1 := []) (res := .one (lb r2)) (res1 := .one (lb r2)) (r := .one (lb r2)) (N := []) (by kernel_rfl) (readA_ow (readA_csl (c := Field.cod) (k := 1) (off := 3) (cs := (Thing.cells a0)) (l := [a0.F.a0, a0.F.a1, a0.F.a2, a0.F.a3]) (by kernel_rfl) (by kernel_rfl) (by kernel_rfl) (by kernel_rfl) (readA_keep (by kernel_rfl) (readA_nil)))) (by kernel_rfl) (by kernel_rfl) (by kernel_rfl) (by kernel_rfl) (F68s0_ok n [a0.F.a0, a0.F.a1, a0.F.a2, a0.F.a3] r2 hr) (by kernel_rfl) (by kernel_rfl) (by kernel_rfl) rfl (by kernel_rfl) (by kernel_rfl) (by kernel_rfl))) (fun r2 => ?_)
        refine SimI.run 3 [(2, .one (lb (!(r2)))), (21, .one (lb (!(r2)))), (20, .one (lb (!(r2))))] [] (by kernel_rfl) ?_
        refine SimI.done (by kernel_rfl) ?_
        refine SimE.thenN ?_
        refine Sim.ret ?_
        exact SimE.fin (by kernel_rfl)
      · refine SimI.run 6 [(2, .one (lb false)), (21, .one (lb false)), (20, .tup []), (19, .tup []), (18, .tup []), (17, .tup [])] [] (by kernel_rfl) ?_
        refine SimI.done (by kernel_rfl) ?_
        refine SimE.thenN ?_
        refine Sim.ret ?_
        exact SimE.fin (by kernel_rfl)
    · refine SimI.run 11 [(2, .one (lb false)), (21, .one (lb false)), (20, .tup []), (19, .tup []), (18, .tup []), (17, .tup []), (16, .one (lb false)), (15, .one (lb false)), (14, .tup []), (13, .tup []), (12, .tup [])] [] (by kernel_rfl) ?_
      refine SimI.done (by kernel_rfl) ?_
      refine SimE.thenN ?_
      refine Sim.ret ?_
      exact SimE.fin (by kernel_rfl)
  · refine SimI.run 16 [(2, .one (lb false)), (21, .one (lb false)), (20, .tup []), (19, .tup []), (18, .tup []), (17, .tup []), (16, .one (lb false)), (15, .one (lb false)), (14, .tup []), (13, .tup []), (12, .tup []), (11, .one (lb false)), (10, .one (lb false)), (9, .tup []), (8, .tup []), (7, .tup [])] [] (by kernel_rfl) ?_
    refine SimI.done (by kernel_rfl) ?_
    refine SimE.thenN ?_
    refine Sim.ret ?_
    exact SimE.fin (by kernel_rfl)


-- 65: vedette/num.Put
def F65_e : ByteArray → PV × List Ob := fun r => (.one (ls r), [])
def F65_l7 (n : Nat) : Nat → Int → (List Int) → Option ByteArray
  | 0, _, _ => none
  | m + 1, i5, l6 =>
    if decide ((128 : Int) ≤ i5) then
      if ((l6).length + 1) * 1 ≤ maxCells ∧ (l6).length + 1 ≤ maxCells then
        (F65_l7 n m) (shrI .u64 i5 7) (l6 ++ [bitsI .or .u8 (IntKind.wrap .u8 i5) 128])
      else none
    else
      if ((l6).length + 1) * 1 ≤ maxCells ∧ (l6).length + 1 ≤ maxCells then
        some (mkStr (l6 ++ [IntKind.wrap .u8 i5]))
      else none
theorem F65_l7_ok (n : Nat) : ∀ (m : Nat) (i5 : Int) (l6 : (List Int)), SimL Try.prog D (n + 8) m pc65_c12 [(0, .one (li .u64 i5)), (3, .one (.osl 100003 0 0 (l6).length))] [(100003, some (.arr 5 (codI .u8).sz 0 (l6).length (getOf (codI .u8) l6)))] (F65_l7 n m i5 l6) (QB 0 (QT Try.prog D (n + 8) pc65_c17 (QF false pc65_r 0 F65_e))) := by
  intro m_l7
  induction m_l7 with
  | zero => intro i5 l6; exact SimL.zero'  rfl
  | succ m_l7 ih_l7 =>
    intro i5 l6
    refine SimL.succ ?_
    unfold F65_l7
    refine Sim.seq ?_
    refine Sim.seq ?_
    refine Sim.region [(0, .one (li .u64 i5)), (3, .one (.osl 100003 0 0 (l6).length))] [(100003, some (.arr 5 (codI .u8).sz 0 (l6).length (getOf (codI .u8) l6)))] (by kernel_rfl) ?_
    refine SimI.run 2 [(5, .one (lb (decide ((128 : Int) ≤ i5)))), (4, .one (li .u64 i5))] [] (by kernel_rfl) ?_
    refine SimI.done (by kernel_rfl) ?_
    refine SimE.thenN ?_
    refine Sim.cond (decide ((128 : Int) ≤ i5)) (by kernel_rfl) ?_ ?_
    · refine Sim.skip ?_
      refine SimE.thenN ?_
      refine Sim.block ?_
      refine Sim.seq ?_
      refine Sim.region0 ?_
      refine SimI.run 5 [(10, .one (vw (codI .u8) [bitsI .or .u8 (IntKind.wrap .u8 i5) 128])), (9, .one (li .u8 (bitsI .or .u8 (IntKind.wrap .u8 i5) 128))), (8, .one (li .u8 (IntKind.wrap .u8 i5))), (7, .one (li .u64 i5)), (6, .one (.osl 100003 0 0 (l6).length))] [] (by kernel_rfl) ?_
      refine SimI.guard (c := ((l6).length + 1) * 1 ≤ maxCells ∧ (l6).length + 1 ≤ maxCells) { dst := some 11, op := POp.app 100003 5 1 1 (Operand.tmp 6) (Operand.tmp 10), guard := none, hints := [] } [(11, .one (.osl 100003 (0 + 1) 0 ((l6 ++ [bitsI .or .u8 (IntKind.wrap .u8 i5) 128])).length))] [(100003, some (.arr 5 (codI .u8).sz (0 + 1) ((l6 ++ [bitsI .or .u8 (IntKind.wrap .u8 i5) 128])).length (getOf (codI .u8) (l6 ++ [bitsI .or .u8 (IntKind.wrap .u8 i5) 128]))))] (by kernel_rfl) (fun hc => pOp_eff (by kernel_rfl) (by kernel_rfl) (eff_appO (c := (codI .u8)) (g := 0) (l := l6) (a := bitsI .or .u8 (IntKind.wrap .u8 i5) 128) (by kernel_rfl) (by kernel_rfl) (by kernel_rfl) (by kernel_rfl) hc)) ?_
      refine SimI.run 1 [(3, .one (.osl 100003 (0 + 1) 0 ((l6 ++ [bitsI .or .u8 (IntKind.wrap .u8 i5) 128])).length))] [] (by kernel_rfl) ?_
      refine SimI.done (by kernel_rfl) ?_
      refine SimE.thenN ?_
      refine Sim.region0 ?_
      refine SimI.run 3 [(0, .one (li .u64 (shrI .u64 i5 7))), (13, .one (li .u64 (shrI .u64 i5 7))), (12, .one (li .u64 i5))] [] (by kernel_rfl) ?_
      refine SimI.done (by kernel_rfl) ?_
      refine SimE.blockN ?_
      refine SimE.loopN ?_
      refine SimL.pre (ts := [0, 3]) (os := [100003]) (ow := [(false, 3, 0, 100003, 5, 1)]) [(0, .one (li .u64 (shrI .u64 i5 7))), (3, .one (.osl 100003 0 0 ((l6 ++ [bitsI .or .u8 (IntKind.wrap .u8 i5) 128])).length))] [(100003, some (.arr 5 (codI .u8).sz 0 ((l6 ++ [bitsI .or .u8 (IntKind.wrap .u8 i5) 128])).length (getOf (codI .u8) (l6 ++ [bitsI .or .u8 (IntKind.wrap .u8 i5) 128]))))] (by kernel_rfl) (by kernel_rfl) (by kernel_rfl) ?_
      exact ih_l7 (shrI .u64 i5 7) (l6 ++ [bitsI .or .u8 (IntKind.wrap .u8 i5) 128])
    · refine Sim.exit ?_
      refine SimE.thenX ?_
      refine SimE.loopX ?_
      refine SimE.blockX ?_
      refine SimE.thenN ?_
      refine Sim.seq ?_
      refine Sim.region0 ?_
      refine SimI.run 4 [(17, .one (vw (codI .u8) [IntKind.wrap .u8 i5])), (16, .one (li .u8 (IntKind.wrap .u8 i5))), (15, .one (li .u64 i5)), (14, .one (.osl 100003 0 0 (l6).length))] [] (by kernel_rfl) ?_
      refine SimI.guard (c := ((l6).length + 1) * 1 ≤ maxCells ∧ (l6).length + 1 ≤ maxCells) { dst := some 18, op := POp.app 100003 5 1 1 (Operand.tmp 14) (Operand.tmp 17), guard := none, hints := [] } [(18, .one (.osl 100003 (0 + 1) 0 ((l6 ++ [IntKind.wrap .u8 i5])).length))] [(100003, some (.arr 5 (codI .u8).sz (0 + 1) ((l6 ++ [IntKind.wrap .u8 i5])).length (getOf (codI .u8) (l6 ++ [IntKind.wrap .u8 i5]))))] (by kernel_rfl) (fun hc => pOp_eff (by kernel_rfl) (by kernel_rfl) (eff_appO (c := (codI .u8)) (g := 0) (l := l6) (a := IntKind.wrap .u8 i5) (by kernel_rfl) (by kernel_rfl) (by kernel_rfl) (by kernel_rfl) hc)) ?_
      refine SimI.step { dst := some 19, op := POp.b2s (Operand.tmp 18), guard := none, hints := [] } [(19, .one (ls (mkStr (l6 ++ [IntKind.wrap .u8 i5]))))] [] (by kernel_rfl) (pOp_eff (by kernel_rfl) (by kernel_rfl) (eff_b2sO (l := (l6 ++ [IntKind.wrap .u8 i5])) (k := 100003) (g := (0 + 1)) (el := 5) (by kernel_rfl) (by kernel_rfl))) ?_
      refine SimI.run 1 [(2, .one (ls (mkStr (l6 ++ [IntKind.wrap .u8 i5]))))] [] (by kernel_rfl) ?_
      refine SimI.done (by kernel_rfl) ?_
      refine SimE.thenN ?_
      refine Sim.ret ?_
      exact SimE.fin (by kernel_rfl)

def F65 (n : Nat) (a0 : Int) : Option ByteArray :=
  F65_l7 n (n + 8) a0 ([] : List Int)
theorem F65_ok (n : Nat) (a0 : Int) : ∀ r, F65 n a0 = some r → D 65 [.one (li .u64 a0)] [] = some (F65_e r) := by
  refine fn_to (D := D) (n := n + 8) (nt := 20) (rs := pc65_r) (c := pc65_c20) (L := [(0, .one (li .u64 a0))]) (M := []) (k := 0) rfl rfl rfl rfl rfl rfl rfl ?_
  unfold F65
  refine Sim.seq ?_
  refine Sim.region0 ?_
  refine SimI.run 1 [(2, .one (ls ByteArray.empty))] [] (by kernel_rfl) ?_
  refine SimI.done (by kernel_rfl) ?_
  refine SimE.thenN ?_
  refine Sim.seq ?_
  refine Sim.region0 ?_
  refine SimI.run 1 [(3, .one (lnil))] [] (by kernel_rfl) ?_
  refine SimI.done (by kernel_rfl) ?_
  refine SimE.thenN ?_
  refine Sim.seq ?_
  refine Sim.block ?_
  refine Sim.loop ?_
  refine SimL.pre (ts := [0, 3]) (os := [100003]) (ow := [(false, 3, 0, 100003, 5, 1)]) [(0, .one (li .u64 a0)), (3, .one (.osl 100003 0 0 (([] : List Int)).length))] [(100003, some (.arr 5 (codI .u8).sz 0 (([] : List Int)).length (getOf (codI .u8) ([] : List Int))))] (by kernel_rfl) (by kernel_rfl) (by kernel_rfl) ?_
  exact F65_l7_ok n (n + 8) a0 ([] : List Int)


-- 99: vedette/fields.has
def F99_e : Bool → PV × List Ob := fun r => (.one (lb r), [])
def F99 (n : Nat) (a0 : Int) (a1 : Int) : Option Bool :=
  if ¬ (IntKind.wrap .i64 (a1 + 1) < 0) then
    some ((bitsI .and .u8 (shrI .u8 a0 (IntKind.wrap .i64 (a1 + 1))) 1) == 1)
  else none
theorem F99_ok (n : Nat) (a0 : Int) (a1 : Int) : ∀ r, F99 n a0 a1 = some r → D 99 [.one (li .u8 a0), .one (li .i64 a1)] [] = some (F99_e r) := by
  refine fn_to (D := D) (n := n + 8) (nt := 11) (rs := pc99_r) (c := pc99_c5) (L := [(0, .one (li .u8 a0)), (1, .one (li .i64 a1))]) (M := []) (k := 0) rfl rfl rfl rfl rfl rfl rfl ?_
  unfold F99
  refine Sim.seq ?_
  refine Sim.region0 ?_
  refine SimI.run 1 [(4, .one (lb false))] [] (by kernel_rfl) ?_
  refine SimI.done (by kernel_rfl) ?_
  refine SimE.thenN ?_
  refine Sim.seq ?_
  refine Sim.region0 ?_
  refine SimI.run 3 [(7, .one (li .i64 (IntKind.wrap .i64 (a1 + 1)))), (6, .one (li .i64 a1)), (5, .one (li .u8 a0))] [] (by kernel_rfl) ?_
  refine SimI.guard (c := ¬ (IntKind.wrap .i64 (a1 + 1) < 0)) { dst := some 8, op := POp.prim (Prim.bin BinOp.shr 5 false false) [Operand.tmp 5, Operand.tmp 7], guard := none, hints := [] } [(8, .one (li .u8 (shrI .u8 a0 (IntKind.wrap .i64 (a1 + 1)))))] [] (by kernel_rfl) (fun hc => pOp_eff (by kernel_rfl) (by kernel_rfl) (eff_prim (by kernel_rfl) (pr_shr _ _ _ .u8 .i64 a0 (IntKind.wrap .i64 (a1 + 1)) hc))) ?_
  refine SimI.run 3 [(4, .one (lb ((bitsI .and .u8 (shrI .u8 a0 (IntKind.wrap .i64 (a1 + 1))) 1) == 1))), (10, .one (lb ((bitsI .and .u8 (shrI .u8 a0 (IntKind.wrap .i64 (a1 + 1))) 1) == 1))), (9, .one (li .u8 (bitsI .and .u8 (shrI .u8 a0 (IntKind.wrap .i64 (a1 + 1))) 1)))] [] (by kernel_rfl) ?_
  refine SimI.done (by kernel_rfl) ?_
  refine SimE.thenN ?_
  refine Sim.ret ?_
  exact SimE.fin (by kernel_rfl)


-- 77: vedette/fields.IsDelta
def F77_e : Bool → PV × List Ob := fun r => (.one (lb r), [])
def F77_u15 (n : Nat) : Option Bool :=
    some true
theorem F77_u15_ok (n : Nat) (a0 : Delta) : SimL Try.prog D (n + 8) (n + 4) pc77_c34 [(1, .one (.ptr 1 0)), (40, .agg (A4_Field.cells a0.F)), (41, .one (li .i64 4))] [(1, some (.cells (Delta.cells a0)))] (F77_u15 n) (QB 0 (QT Try.prog D (n + 8) pc77_c40 (QF false pc77_r 0 F77_e))) := by
    unfold F77_u15
    refine SimL.succ ?_
    refine Sim.seq ?_
    refine Sim.region [(1, .one (.ptr 1 0)), (40, .agg (A4_Field.cells a0.F)), (41, .one (li .i64 4))] [(1, some (.cells (Delta.cells a0)))] (by kernel_rfl) ?_
    refine SimI.run 1 [(42, .one (lb false))] [] (by kernel_rfl) ?_
    refine SimI.done (by kernel_rfl) ?_
    refine SimE.thenN ?_
    refine Sim.seq ?_
    refine Sim.condF (by kernel_rfl) ?_
    refine Sim.exit ?_
    refine SimE.thenX ?_
    refine SimE.loopX ?_
    refine SimE.blockX ?_
    refine SimE.thenN ?_
    refine Sim.seq ?_
    refine Sim.region0 ?_
    refine SimI.run 1 [(2, .one (lb true))] [] (by kernel_rfl) ?_
    refine SimI.done (by kernel_rfl) ?_
    refine SimE.thenN ?_
    refine Sim.ret ?_
    exact SimE.fin (by kernel_rfl)

def F77_u12 (n : Nat) (a0 : Delta) : Option Bool :=
    (F70 n a0.F.a3).bind fun (r13 : Bool) =>
    if !(r13) then
      some false
    else
      (F99 n a0.Mask 3).bind fun (r14 : Bool) =>
      if !(r14) then
        if !(Field.eqb a0.F.a3 (Field.mk 0 ByteArray.empty)) then
          some false
        else
          F77_u15 n
      else
        F77_u15 n
theorem F77_u12_ok (n : Nat) (a0 : Delta) : SimL Try.prog D (n + 8) (n + 5) pc77_c34 [(1, .one (.ptr 1 0)), (40, .agg (A4_Field.cells a0.F)), (41, .one (li .i64 3))] [(1, some (.cells (Delta.cells a0)))] (F77_u12 n a0) (QB 0 (QT Try.prog D (n + 8) pc77_c40 (QF false pc77_r 0 F77_e))) := by
    unfold F77_u12
    refine SimL.succ ?_
    refine Sim.seq ?_
    refine Sim.region [(1, .one (.ptr 1 0)), (40, .agg (A4_Field.cells a0.F)), (41, .one (li .i64 3))] [(1, some (.cells (Delta.cells a0)))] (by kernel_rfl) ?_
    refine SimI.run 1 [(42, .one (lb true))] [] (by kernel_rfl) ?_
    refine SimI.done (by kernel_rfl) ?_
    refine SimE.thenN ?_
    refine Sim.seq ?_
    refine Sim.condT (by kernel_rfl) ?_
    refine Sim.skip ?_
    refine SimE.thenN ?_
    refine Sim.seq ?_
    refine Sim.block ?_
    refine Sim.seq ?_
    refine Sim.region0 ?_
    refine SimI.run 5 [(3, .one (li .i64 3)), (4, .one (.ptr 4 0)), (44, .agg [li .i64 a0.F.a3.N, ls a0.F.a3.Text]), (43, .one (li .i64 3))] [(4, some (.cells [li .i64 a0.F.a3.N, ls a0.F.a3.Text])), (4, some (.cells [li .i64 0, ls ByteArray.empty]))] (by kernel_rfl) ?_
    refine SimI.done (by kernel_rfl) ?_
    refine SimE.thenN ?_
    refine Sim.seq ?_
    refine Sim.region0 ?_
    refine SimI.run 1 [(45, .agg [li .i64 a0.F.a3.N, ls a0.F.a3.Text])] [] (by kernel_rfl) ?_
    refine SimI.bind (og := F70 n a0.F.a3) { dst := some 46, op := POp.call true [[]] 70 [Operand.tmp 45], guard := none, hints := [] } (fun r13 => [(46, .one (lb r13))]) (fun r13 => []) (by kernel_rfl) (fun r13 hr => pOp_eff (by kernel_rfl) (by kernel_rfl) (eff_call (ARGS := [.agg [li .i64 a0.F.a3.N, ls a0.F.a3.Text]]) (by kernel_rfl) (args_clean (by kernel_rfl) args_nil) (F70_ok n a0.F.a3 r13 hr) (by kernel_rfl))) (fun r13 => ?_)
    refine SimI.run 2 [(48, .one (lb (!(r13)))), (47, .one (lb (!(r13))))] [] (by kernel_rfl) ?_
    refine SimI.split 48 (!(r13)) (by kernel_rfl) ?_ ?_
    · refine SimI.run 11 [(59, .one (lb true)), (58, .tup []), (57, .tup []), (56, .tup []), (55, .tup []), (54, .tup []), (53, .tup []), (52, .tup []), (51, .tup []), (50, .tup []), (49, .tup [])] [] (by kernel_rfl) ?_
      refine SimI.done (by kernel_rfl) ?_
      refine SimE.thenN ?_
      refine Sim.condT (by kernel_rfl) ?_
      refine Sim.seq ?_
      refine Sim.region0 ?_
      refine SimI.run 1 [(2, .one (lb false))] [] (by kernel_rfl) ?_
      refine SimI.done (by kernel_rfl) ?_
      refine SimE.thenN ?_
      refine Sim.ret ?_
      refine SimE.blockR ?_
      refine SimE.thenR ?_
      refine SimE.loopR ?_
      refine SimE.blockR ?_
      refine SimE.thenR ?_
      exact SimE.fin (by kernel_rfl)
    · refine SimI.run 3 [(51, .one (li .i64 3)), (50, .one (li .u8 a0.Mask)), (49, .one (.ptr 1 1))] [] (by kernel_rfl) ?_
      refine SimI.bind (og := F99 n a0.Mask 3) { dst := some 52, op := POp.call true [[], []] 99 [Operand.tmp 50, Operand.tmp 51], guard := some (48, false), hints := [] } (fun r14 => [(52, .one (lb r14))]) (fun r14 => []) (by kernel_rfl) (fun r14 hr => pOp_eff (by kernel_rfl) (by kernel_rfl) (eff_call (ARGS := [.one (li .u8 a0.Mask), .one (li .i64 3)]) (by kernel_rfl) (args_clean (by kernel_rfl) (args_clean (by kernel_rfl) args_nil)) (F99_ok n a0.Mask 3 r14 hr) (by kernel_rfl))) (fun r14 => ?_)
      refine SimI.run 2 [(54, .one (lb (!(r14)))), (53, .one (lb (!(r14))))] [] (by kernel_rfl) ?_
      refine SimI.split 54 (!(r14)) (by kernel_rfl) ?_ ?_
      · refine SimI.run 2 [(56, .agg [li .i64 0, ls ByteArray.empty]), (55, .agg [li .i64 a0.F.a3.N, ls a0.F.a3.Text])] [] (by kernel_rfl) ?_
        refine SimI.step { dst := some 57, op := POp.prim (Prim.bin BinOp.neq 25 false false) [Operand.tmp 55, Operand.tmp 56], guard := some (54, true), hints := [] } [(57, .one (lb (!(Field.eqb a0.F.a3 (Field.mk 0 ByteArray.empty)))))] [] (by kernel_rfl) (pOp_eff (by kernel_rfl) (by kernel_rfl) (eff_prim (by kernel_rfl) (Field_eqn a0.F.a3 (Field.mk 0 ByteArray.empty) _ _))) ?_
        refine SimI.run 2 [(59, .one (lb (!(Field.eqb a0.F.a3 (Field.mk 0 ByteArray.empty))))), (58, .one (lb (!(Field.eqb a0.F.a3 (Field.mk 0 ByteArray.empty)))))] [] (by kernel_rfl) ?_
        refine SimI.done (by kernel_rfl) ?_
        refine SimE.thenN ?_
        refine Sim.cond (!(Field.eqb a0.F.a3 (Field.mk 0 ByteArray.empty))) (by kernel_rfl) ?_ ?_
        · refine Sim.seq ?_
          refine Sim.region0 ?_
          refine SimI.run 1 [(2, .one (lb false))] [] (by kernel_rfl) ?_
          refine SimI.done (by kernel_rfl) ?_
          refine SimE.thenN ?_
          refine Sim.ret ?_
          refine SimE.blockR ?_
          refine SimE.thenR ?_
          refine SimE.loopR ?_
          refine SimE.blockR ?_
          refine SimE.thenR ?_
          exact SimE.fin (by kernel_rfl)
        · refine Sim.skip ?_
          refine SimE.blockN ?_
          refine SimE.thenN ?_
          refine Sim.region0 ?_
          refine SimI.run 2 [(41, .one (li .i64 4)), (60, .one (li .i64 4))] [] (by kernel_rfl) ?_
          refine SimI.done (by kernel_rfl) ?_
          refine SimE.loopN ?_
          refine SimL.pre (ts := [1, 40, 41]) (os := [1, 4]) (ow := []) [(1, .one (.ptr 1 0)), (40, .agg (A4_Field.cells a0.F)), (41, .one (li .i64 4))] [(1, some (.cells (Delta.cells a0)))] (by kernel_rfl) (by kernel_rfl) (by kernel_rfl) ?_
          exact F77_u15_ok n a0
      · refine SimI.run 5 [(59, .one (lb false)), (58, .one (lb false)), (57, .tup []), (56, .tup []), (55, .tup [])] [] (by kernel_rfl) ?_
        refine SimI.done (by kernel_rfl) ?_
        refine SimE.thenN ?_
        refine Sim.condF (by kernel_rfl) ?_
        refine Sim.skip ?_
        refine SimE.blockN ?_
        refine SimE.thenN ?_
        refine Sim.region0 ?_
        refine SimI.run 2 [(41, .one (li .i64 4)), (60, .one (li .i64 4))] [] (by kernel_rfl) ?_
        refine SimI.done (by kernel_rfl) ?_
        refine SimE.loopN ?_
        refine SimL.pre (ts := [1, 40, 41]) (os := [1, 4]) (ow := []) [(1, .one (.ptr 1 0)), (40, .agg (A4_Field.cells a0.F)), (41, .one (li .i64 4))] [(1, some (.cells (Delta.cells a0)))] (by kernel_rfl) (by kernel_rfl) (by kernel_rfl) ?_
        exact F77_u15_ok n a0

def F77_u9 (n : Nat) (a0 : Delta) : Option Bool :=
    (F70 n a0.F.a2).bind fun (r10 : Bool) =>
    if !(r10) then
      some false
    else
      (F99 n a0.Mask 2).bind fun (r11 : Bool) =>
      if !(r11) then
        if !(Field.eqb a0.F.a2 (Field.mk 0 ByteArray.empty)) then
          some false
        else
          F77_u12 n a0
      else
        F77_u12 n a0
theorem F77_u9_ok (n : Nat) (a0 : Delta) : SimL Try.prog D (n + 8) (n + 6) pc77_c34 [(1, .one (.ptr 1 0)), (40, .agg (A4_Field.cells a0.F)), (41, .one (li .i64 2))] [(1, some (.cells (Delta.cells a0)))] (F77_u9 n a0) (QB 0 (QT Try.prog D (n + 8) pc77_c40 (QF false pc77_r 0 F77_e))) := by
    unfold F77_u9
    refine SimL.succ ?_
    refine Sim.seq ?_
    refine Sim.region [(1, .one (.ptr 1 0)), (40, .agg (A4_Field.cells a0.F)), (41, .one (li .i64 2))] [(1, some (.cells (Delta.cells a0)))] (by kernel_rfl) ?_
    refine SimI.run 1 [(42, .one (lb true))] [] (by kernel_rfl) ?_
    refine SimI.done (by kernel_rfl) ?_
    refine SimE.thenN ?_
    refine Sim.seq ?_
    refine Sim.condT (by kernel_rfl) ?_
    refine Sim.skip ?_
    refine SimE.thenN ?_
    refine Sim.seq ?_
    refine Sim.block ?_
    refine Sim.seq ?_
    refine Sim.region0 ?_
    refine SimI.run 5 [(3, .one (li .i64 2)), (4, .one (.ptr 4 0)), (44, .agg [li .i64 a0.F.a2.N, ls a0.F.a2.Text]), (43, .one (li .i64 2))] [(4, some (.cells [li .i64 a0.F.a2.N, ls a0.F.a2.Text])), (4, some (.cells [li .i64 0, ls ByteArray.empty]))] (by kernel_rfl) ?_
    refine SimI.done (by kernel_rfl) ?_
    refine SimE.thenN ?_
    refine Sim.seq ?_
    refine Sim.region0 ?_
    refine SimI.run 1 [(45, .agg [li .i64 a0.F.a2.N, ls a0.F.a2.Text])] [] (by kernel_rfl) ?_
    refine SimI.bind (og := F70 n a0.F.a2) { dst := some 46, op := POp.call true [[]] 70 [Operand.tmp 45], guard := none, hints := [] } (fun r10 => [(46, .one (lb r10))]) (fun r10 => []) (by kernel_rfl) (fun r10 hr => pOp_eff (by kernel_rfl) (by kernel_rfl) (eff_call (ARGS := [.agg [li .i64 a0.F.a2.N, ls a0.F.a2.Text]]) (by kernel_rfl) (args_clean (by kernel_rfl) args_nil) (F70_ok n a0.F.a2 r10 hr) (by kernel_rfl))) (fun r10 => ?_)
    refine SimI.run 2 [(48, .one (lb (!(r10)))), (47, .one (lb (!(r10))))] [] (by kernel_rfl) ?_
    refine SimI.split 48 (!(r10)) (by kernel_rfl) ?_ ?_
    · refine SimI.run 11 [(59, .one (lb true)), (58, .tup []), (57, .tup []), (56, .tup []), (55, .tup []), (54, .tup []), (53, .tup []), (52, .tup []), (51, .tup []), (50, .tup []), (49, .tup [])] [] (by kernel_rfl) ?_
      refine SimI.done (by kernel_rfl) ?_
      refine SimE.thenN ?_
      refine Sim.condT (by kernel_rfl) ?_
      refine Sim.seq ?_
      refine Sim.region0 ?_
      refine SimI.run 1 [(2, .one (lb false))] [] (by kernel_rfl) ?_
      refine SimI.done (by kernel_rfl) ?_
      refine SimE.thenN ?_
      refine Sim.ret ?_
      refine SimE.blockR ?_
      refine SimE.thenR ?_
      refine SimE.loopR ?_
      refine SimE.blockR ?_
      refine SimE.thenR ?_
      exact SimE.fin (by kernel_rfl)
    · refine SimI.run 3 [(51, .one (li .i64 2)), (50, .one (li .u8 a0.Mask)), (49, .one (.ptr 1 1))] [] (by kernel_rfl) ?_
      refine SimI.bind (og := F99 n a0.Mask 2) { dst := some 52, op := POp.call true [[], []] 99 [Operand.tmp 50, Operand.tmp 51], guard := some (48, false), hints := [] } (fun r11 => [(52, .one (lb r11))]) (fun r11 => []) (by kernel_rfl) (fun r11 hr => pOp_eff (by kernel_rfl) (by kernel_rfl) (eff_call (ARGS := [.one (li .u8 a0.Mask), .one (li .i64 2)]) (by kernel_rfl) (args_clean (by kernel_rfl) (args_clean (by kernel_rfl) args_nil)) (F99_ok n a0.Mask 2 r11 hr) (by kernel_rfl))) (fun r11 => ?_)
      refine SimI.run 2 [(54, .one (lb (!(r11)))), (53, .one (lb (!(r11))))] [] (by kernel_rfl) ?_
      refine SimI.split 54 (!(r11)) (by kernel_rfl) ?_ ?_
      · refine SimI.run 2 [(56, .agg [li .i64 0, ls ByteArray.empty]), (55, .agg [li .i64 a0.F.a2.N, ls a0.F.a2.Text])] [] (by kernel_rfl) ?_
        refine SimI.step { dst := some 57, op := POp.prim (Prim.bin BinOp.neq 25 false false) [Operand.tmp 55, Operand.tmp 56], guard := some (54, true), hints := [] } [(57, .one (lb (!(Field.eqb a0.F.a2 (Field.mk 0 ByteArray.empty)))))] [] (by kernel_rfl) (pOp_eff (by kernel_rfl) (by kernel_rfl) (eff_prim (by kernel_rfl) (Field_eqn a0.F.a2 (Field.mk 0 ByteArray.empty) _ _))) ?_
        refine SimI.run 2 [(59, .one (lb (!(Field.eqb a0.F.a2 (Field.mk 0 ByteArray.empty))))), (58, .one (lb (!(Field.eqb a0.F.a2 (Field.mk 0 ByteArray.empty)))))] [] (by kernel_rfl) ?_
        refine SimI.done (by kernel_rfl) ?_
        refine SimE.thenN ?_
        refine Sim.cond (!(Field.eqb a0.F.a2 (Field.mk 0 ByteArray.empty))) (by kernel_rfl) ?_ ?_
        · refine Sim.seq ?_
          refine Sim.region0 ?_
          refine SimI.run 1 [(2, .one (lb false))] [] (by kernel_rfl) ?_
          refine SimI.done (by kernel_rfl) ?_
          refine SimE.thenN ?_
          refine Sim.ret ?_
          refine SimE.blockR ?_
          refine SimE.thenR ?_
          refine SimE.loopR ?_
          refine SimE.blockR ?_
          refine SimE.thenR ?_
          exact SimE.fin (by kernel_rfl)
        · refine Sim.skip ?_
          refine SimE.blockN ?_
          refine SimE.thenN ?_
          refine Sim.region0 ?_
          refine SimI.run 2 [(41, .one (li .i64 3)), (60, .one (li .i64 3))] [] (by kernel_rfl) ?_
          refine SimI.done (by kernel_rfl) ?_
          refine SimE.loopN ?_
          refine SimL.pre (ts := [1, 40, 41]) (os := [1, 4]) (ow := []) [(1, .one (.ptr 1 0)), (40, .agg (A4_Field.cells a0.F)), (41, .one (li .i64 3))] [(1, some (.cells (Delta.cells a0)))] (by kernel_rfl) (by kernel_rfl) (by kernel_rfl) ?_
          exact F77_u12_ok n a0
      · refine SimI.run 5 [(59, .one (lb false)), (58, .one (lb false)), (57, .tup []), (56, .tup []), (55, .tup [])] [] (by kernel_rfl) ?_
        refine SimI.done (by kernel_rfl) ?_
        refine SimE.thenN ?_
        refine Sim.condF (by kernel_rfl) ?_
        refine Sim.skip ?_
        refine SimE.blockN ?_
        refine SimE.thenN ?_
        refine Sim.region0 ?_
        refine SimI.run 2 [(41, .one (li .i64 3)), (60, .one (li .i64 3))] [] (by kernel_rfl) ?_
        refine SimI.done (by kernel_rfl) ?_
        refine SimE.loopN ?_
        refine SimL.pre (ts := [1, 40, 41]) (os := [1, 4]) (ow := []) [(1, .one (.ptr 1 0)), (40, .agg (A4_Field.cells a0.F)), (41, .one (li .i64 3))] [(1, some (.cells (Delta.cells a0)))] (by kernel_rfl) (by kernel_rfl) (by kernel_rfl) ?_
        exact F77_u12_ok n a0

def F77_u6 (n : Nat) (a0 : Delta) : Option Bool :=
    (F70 n a0.F.a1).bind fun (r7 : Bool) =>
    if !(r7) then
      some false
    else
      (F99 n a0.Mask 1).bind fun (r8 : Bool) =>
      if !(r8) then
        if !(Field.eqb a0.F.a1 (Field.mk 0 ByteArray.empty)) then
          some false
        else
          F77_u9 n a0
      else
        F77_u9 n a0
theorem F77_u6_ok (n : Nat) (a0 : Delta) : SimL Try.prog D (n + 8) (n + 7) pc77_c34 [(1, .one (.ptr 1 0)), (40, .agg (A4_Field.cells a0.F)), (41, .one (li .i64 1))] [(1, some (.cells (Delta.cells a0)))] (F77_u6 n a0) (QB 0 (QT Try.prog D (n + 8) pc77_c40 (QF false pc77_r 0 F77_e))) := by
    unfold F77_u6
    refine SimL.succ ?_
    refine Sim.seq ?_
    refine Sim.region [(1, .one (.ptr 1 0)), (40, .agg (A4_Field.cells a0.F)), (41, .one (li .i64 1))] [(1, some (.cells (Delta.cells a0)))] (by kernel_rfl) ?_
    refine SimI.run 1 [(42, .one (lb true))] [] (by kernel_rfl) ?_
    refine SimI.done (by kernel_rfl) ?_
    refine SimE.thenN ?_
    refine Sim.seq ?_
    refine Sim.condT (by kernel_rfl) ?_
    refine Sim.skip ?_
    refine SimE.thenN ?_
    refine Sim.seq ?_
    refine Sim.block ?_
    refine Sim.seq ?_
    refine Sim.region0 ?_
    refine SimI.run 5 [(3, .one (li .i64 1)), (4, .one (.ptr 4 0)), (44, .agg [li .i64 a0.F.a1.N, ls a0.F.a1.Text]), (43, .one (li .i64 1))] [(4, some (.cells [li .i64 a0.F.a1.N, ls a0.F.a1.Text])), (4, some (.cells [li .i64 0, ls ByteArray.empty]))] (by kernel_rfl) ?_
    refine SimI.done (by kernel_rfl) ?_
    refine SimE.thenN ?_
    refine Sim.seq ?_
    refine Sim.region0 ?_
    refine SimI.run 1 [(45, .agg [li .i64 a0.F.a1.N, ls a0.F.a1.Text])] [] (by kernel_rfl) ?_
    refine SimI.bind (og := F70 n a0.F.a1) { dst := some 46, op := POp.call true [[]] 70 [Operand.tmp 45], guard := none, hints := [] } (fun r7 => [(46, .one (lb r7))]) (fun r7 => []) (by kernel_rfl) (fun r7 hr => pOp_eff (by kernel_rfl) (by kernel_rfl) (eff_call (ARGS := [.agg [li .i64 a0.F.a1.N, ls a0.F.a1.Text]]) (by kernel_rfl) (args_clean (by kernel_rfl) args_nil) (F70_ok n a0.F.a1 r7 hr) (by kernel_rfl))) (fun r7 => ?_)
    refine SimI.run 2 [(48, .one (lb (!(r7)))), (47, .one (lb (!(r7))))] [] (by kernel_rfl) ?_
    refine SimI.split 48 (!(r7)) (by kernel_rfl) ?_ ?_
    · refine SimI.run 11 [(59, .one (lb true)), (58, .tup []), (57, .tup []), (56, .tup []), (55, .tup []), (54, .tup []), (53, .tup []), (52, .tup []), (51, .tup []), (50, .tup []), (49, .tup [])] [] (by kernel_rfl) ?_
      refine SimI.done (by kernel_rfl) ?_
      refine SimE.thenN ?_
      refine Sim.condT (by kernel_rfl) ?_
      refine Sim.seq ?_
      refine Sim.region0 ?_
      refine SimI.run 1 [(2, .one (lb false))] [] (by kernel_rfl) ?_
      refine SimI.done (by kernel_rfl) ?_
      refine SimE.thenN ?_
      refine Sim.ret ?_
      refine SimE.blockR ?_
      refine SimE.thenR ?_
      refine SimE.loopR ?_
      refine SimE.blockR ?_
      refine SimE.thenR ?_
      exact SimE.fin (by kernel_rfl)
    · refine SimI.run 3 [(51, .one (li .i64 1)), (50, .one (li .u8 a0.Mask)), (49, .one (.ptr 1 1))] [] (by kernel_rfl) ?_
      refine SimI.bind (og := F99 n a0.Mask 1) { dst := some 52, op := POp.call true [[], []] 99 [Operand.tmp 50, Operand.tmp 51], guard := some (48, false), hints := [] } (fun r8 => [(52, .one (lb r8))]) (fun r8 => []) (by kernel_rfl) (fun r8 hr => pOp_eff (by kernel_rfl) (by kernel_rfl) (eff_call (ARGS := [.one (li .u8 a0.Mask), .one (li .i64 1)]) (by kernel_rfl) (args_clean (by kernel_rfl) (args_clean (by kernel_rfl) args_nil)) (F99_ok n a0.Mask 1 r8 hr) (by kernel_rfl))) (fun r8 => ?_)
      refine SimI.run 2 [(54, .one (lb (!(r8)))), (53, .one (lb (!(r8))))] [] (by kernel_rfl) ?_
      refine SimI.split 54 (!(r8)) (by kernel_rfl) ?_ ?_
      · refine SimI.run 2 [(56, .agg [li .i64 0, ls ByteArray.empty]), (55, .agg [li .i64 a0.F.a1.N, ls a0.F.a1.Text])] [] (by kernel_rfl) ?_
        refine SimI.step { dst := some 57, op := POp.prim (Prim.bin BinOp.neq 25 false false) [Operand.tmp 55, Operand.tmp 56], guard := some (54, true), hints := [] } [(57, .one (lb (!(Field.eqb a0.F.a1 (Field.mk 0 ByteArray.empty)))))] [] (by kernel_rfl) (pOp_eff (by kernel_rfl) (by kernel_rfl) (eff_prim (by kernel_rfl) (Field_eqn a0.F.a1 (Field.mk 0 ByteArray.empty) _ _))) ?_
        refine SimI.run 2 [(59, .one (lb (!(Field.eqb a0.F.a1 (Field.mk 0 ByteArray.empty))))), (58, .one (lb (!(Field.eqb a0.F.a1 (Field.mk 0 ByteArray.empty)))))] [] (by kernel_rfl) ?_
        refine SimI.done (by kernel_rfl) ?_
        refine SimE.thenN ?_
        refine Sim.cond (!(Field.eqb a0.F.a1 (Field.mk 0 ByteArray.empty))) (by kernel_rfl) ?_ ?_
        · refine Sim.seq ?_
          refine Sim.region0 ?_
          refine SimI.run 1 [(2, .one (lb false))] [] (by kernel_rfl) ?_
          refine SimI.done (by kernel_rfl) ?_
          refine SimE.thenN ?_
          refine Sim.ret ?_
          refine SimE.blockR ?_
          refine SimE.thenR ?_
          refine SimE.loopR ?_
          refine SimE.blockR ?_
          refine SimE.thenR ?_
          exact SimE.fin (by kernel_rfl)
        · refine Sim.skip ?_
          refine SimE.blockN ?_
          refine SimE.thenN ?_
          refine Sim.region0 ?_
          refine SimI.run 2 [(41, .one (li .i64 2)), (60, .one (li .i64 2))] [] (by kernel_rfl) ?_
          refine SimI.done (by kernel_rfl) ?_
          refine SimE.loopN ?_
          refine SimL.pre (ts := [1, 40, 41]) (os := [1, 4]) (ow := []) [(1, .one (.ptr 1 0)), (40, .agg (A4_Field.cells a0.F)), (41, .one (li .i64 2))] [(1, some (.cells (Delta.cells a0)))] (by kernel_rfl) (by kernel_rfl) (by kernel_rfl) ?_
          exact F77_u9_ok n a0
      · refine SimI.run 5 [(59, .one (lb false)), (58, .one (lb false)), (57, .tup []), (56, .tup []), (55, .tup [])] [] (by kernel_rfl) ?_
        refine SimI.done (by kernel_rfl) ?_
        refine SimE.thenN ?_
        refine Sim.condF (by kernel_rfl) ?_
        refine Sim.skip ?_
        refine SimE.blockN ?_
        refine SimE.thenN ?_
        refine Sim.region0 ?_
        refine SimI.run 2 [(41, .one (li .i64 2)), (60, .one (li .i64 2))] [] (by kernel_rfl) ?_
        refine SimI.done (by kernel_rfl) ?_
        refine SimE.loopN ?_
        refine SimL.pre (ts := [1, 40, 41]) (os := [1, 4]) (ow := []) [(1, .one (.ptr 1 0)), (40, .agg (A4_Field.cells a0.F)), (41, .one (li .i64 2))] [(1, some (.cells (Delta.cells a0)))] (by kernel_rfl) (by kernel_rfl) (by kernel_rfl) ?_
        exact F77_u9_ok n a0

def F77_j3 (n : Nat) (a0 : Delta) : Option Bool :=
    (F70 n a0.F.a0).bind fun (r4 : Bool) =>
    if !(r4) then
      some false
    else
      (F99 n a0.Mask 0).bind fun (r5 : Bool) =>
      if !(r5) then
        if !(Field.eqb a0.F.a0 (Field.mk 0 ByteArray.empty)) then
          some false
        else
          F77_u6 n a0
      else
        F77_u6 n a0
theorem F77_j3_ok (n : Nat) (a0 : Delta) : Sim Try.prog D (n + 8) pc77_c41 [(1, .one (.ptr 1 0))] [(1, some (.cells (Delta.cells a0)))] (F77_j3 n a0) (QF false pc77_r 0 F77_e) := by
    unfold F77_j3
    refine Sim.seq ?_
    refine Sim.seq ?_
    refine Sim.region [(1, .one (.ptr 1 0))] [(1, some (.cells (Delta.cells a0)))] (by kernel_rfl) ?_
    refine SimI.run 3 [(41, .one (li .i64 0)), (40, .agg (A4_Field.cells a0.F)), (39, .one (.ptr 1 4))] [] (by kernel_rfl) ?_
    refine SimI.done (by kernel_rfl) ?_
    refine SimE.thenN ?_
    refine Sim.block ?_
    refine Sim.loop ?_
    refine SimL.succ ?_
    refine Sim.seq ?_
    refine Sim.region [(1, .one (.ptr 1 0)), (40, .agg (A4_Field.cells a0.F)), (41, .one (li .i64 0))] [(1, some (.cells (Delta.cells a0)))] (by kernel_rfl) ?_
    refine SimI.run 1 [(42, .one (lb true))] [] (by kernel_rfl) ?_
    refine SimI.done (by kernel_rfl) ?_
    refine SimE.thenN ?_
    refine Sim.seq ?_
    refine Sim.condT (by kernel_rfl) ?_
    refine Sim.skip ?_
    refine SimE.thenN ?_
    refine Sim.seq ?_
    refine Sim.block ?_
    refine Sim.seq ?_
    refine Sim.region0 ?_
    refine SimI.run 5 [(3, .one (li .i64 0)), (4, .one (.ptr 4 0)), (44, .agg [li .i64 a0.F.a0.N, ls a0.F.a0.Text]), (43, .one (li .i64 0))] [(4, some (.cells [li .i64 a0.F.a0.N, ls a0.F.a0.Text])), (4, some (.cells [li .i64 0, ls ByteArray.empty]))] (by kernel_rfl) ?_
    refine SimI.done (by kernel_rfl) ?_
    refine SimE.thenN ?_
    refine Sim.seq ?_
    refine Sim.region0 ?_
    refine SimI.run 1 [(45, .agg [li .i64 a0.F.a0.N, ls a0.F.a0.Text])] [] (by kernel_rfl) ?_
    refine SimI.bind (og := F70 n a0.F.a0) { dst := some 46, op := POp.call true [[]] 70 [Operand.tmp 45], guard := none, hints := [] } (fun r4 => [(46, .one (lb r4))]) (fun r4 => []) (by kernel_rfl) (fun r4 hr => pOp_eff (by kernel_rfl) (by kernel_rfl) (eff_call (ARGS := [.agg [li .i64 a0.F.a0.N, ls a0.F.a0.Text]]) (by kernel_rfl) (args_clean (by kernel_rfl) args_nil) (F70_ok n a0.F.a0 r4 hr) (by kernel_rfl))) (fun r4 => ?_)
    refine SimI.run 2 [(48, .one (lb (!(r4)))), (47, .one (lb (!(r4))))] [] (by kernel_rfl) ?_
    refine SimI.split 48 (!(r4)) (by kernel_rfl) ?_ ?_
    · refine SimI.run 11 [(59, .one (lb true)), (58, .tup []), (57, .tup []), (56, .tup []), (55, .tup []), (54, .tup []), (53, .tup []), (52, .tup []), (51, .tup []), (50, .tup []), (49, .tup [])] [] (by kernel_rfl) ?_
      refine SimI.done (by kernel_rfl) ?_
      refine SimE.thenN ?_
      refine Sim.condT (by kernel_rfl) ?_
      refine Sim.seq ?_
      refine Sim.region0 ?_
      refine SimI.run 1 [(2, .one (lb false))] [] (by kernel_rfl) ?_
      refine SimI.done (by kernel_rfl) ?_
      refine SimE.thenN ?_
      refine Sim.ret ?_
      refine SimE.blockR ?_
      refine SimE.thenR ?_
      refine SimE.loopR ?_
      refine SimE.blockR ?_
      refine SimE.thenR ?_
      exact SimE.fin (by kernel_rfl)
    · refine SimI.run 3 [(51, .one (li .i64 0)), (50, .one (li .u8 a0.Mask)), (49, .one (.ptr 1 1))] [] (by kernel_rfl) ?_
      refine SimI.bind (og := F99 n a0.Mask 0) { dst := some 52, op := POp.call true [[], []] 99 [Operand.tmp 50, Operand.tmp 51], guard := some (48, false), hints := [] } (fun r5 => [(52, .one (lb r5))]) (fun r5 => []) (by kernel_rfl) (fun r5 hr => pOp_eff (by kernel_rfl) (by kernel_rfl) (eff_call (ARGS := [.one (li .u8 a0.Mask), .one (li .i64 0)]) (by kernel_rfl) (args_clean (by kernel_rfl) (args_clean (by kernel_rfl) args_nil)) (F99_ok n a0.Mask 0 r5 hr) (by kernel_rfl))) (fun r5 => ?_)
      refine SimI.run 2 [(54, .one (lb (!(r5)))), (53, .one (lb (!(r5))))] [] (by kernel_rfl) ?_
      refine SimI.split 54 (!(r5)) (by kernel_rfl) ?_ ?_
      · refine SimI.run 2 [(56, .agg [li .i64 0, ls ByteArray.empty]), (55, .agg [li .i64 a0.F.a0.N, ls a0.F.a0.Text])] [] (by kernel_rfl) ?_
        refine SimI.step { dst := some 57, op := POp.prim (Prim.bin BinOp.neq 25 false false) [Operand.tmp 55, Operand.tmp 56], guard := some (54, true), hints := [] } [(57, .one (lb (!(Field.eqb a0.F.a0 (Field.mk 0 ByteArray.empty)))))] [] (by kernel_rfl) (pOp_eff (by kernel_rfl) (by kernel_rfl) (eff_prim (by kernel_rfl) (Field_eqn a0.F.a0 (Field.mk 0 ByteArray.empty) _ _))) ?_
        refine SimI.run 2 [(59, .one (lb (!(Field.eqb a0.F.a0 (Field.mk 0 ByteArray.empty))))), (58, .one (lb (!(Field.eqb a0.F.a0 (Field.mk 0 ByteArray.empty)))))] [] (by kernel_rfl) ?_
        refine SimI.done (by kernel_rfl) ?_
        refine SimE.thenN ?_
        refine Sim.cond (!(Field.eqb a0.F.a0 (Field.mk 0 ByteArray.empty))) (by kernel_rfl) ?_ ?_
        · refine Sim.seq ?_
          refine Sim.region0 ?_
          refine SimI.run 1 [(2, .one (lb false))] [] (by kernel_rfl) ?_
          refine SimI.done (by kernel_rfl) ?_
          refine SimE.thenN ?_
          refine Sim.ret ?_
          refine SimE.blockR ?_
          refine SimE.thenR ?_
          refine SimE.loopR ?_
          refine SimE.blockR ?_
          refine SimE.thenR ?_
          exact SimE.fin (by kernel_rfl)
        · refine Sim.skip ?_
          refine SimE.blockN ?_
          refine SimE.thenN ?_
          refine Sim.region0 ?_
          refine SimI.run 2 [(41, .one (li .i64 1)), (60, .one (li .i64 1))] [] (by kernel_rfl) ?_
          refine SimI.done (by kernel_rfl) ?_
          refine SimE.loopN ?_
          refine SimL.pre (ts := [1, 40, 41]) (os := [1, 4]) (ow := []) [(1, .one (.ptr 1 0)), (40, .agg (A4_Field.cells a0.F)), (41, .one (li .i64 1))] [(1, some (.cells (Delta.cells a0)))] (by kernel_rfl) (by kernel_rfl) (by kernel_rfl) ?_
          exact F77_u6_ok n a0
      · refine SimI.run 5 [(59, .one (lb false)), (58, .one (lb false)), (57, .tup []), (56, .tup []), (55, .tup [])] [] (by kernel_rfl) ?_
        refine SimI.done (by kernel_rfl) ?_
        refine SimE.thenN ?_
        refine Sim.condF (by kernel_rfl) ?_
        refine Sim.skip ?_
        refine SimE.blockN ?_
        refine SimE.thenN ?_
        refine Sim.region0 ?_
        refine SimI.run 2 [(41, .one (li .i64 1)), (60, .one (li .i64 1))] [] (by kernel_rfl) ?_
        refine SimI.done (by kernel_rfl) ?_
        refine SimE.loopN ?_
        refine SimL.pre (ts := [1, 40, 41]) (os := [1, 4]) (ow := []) [(1, .one (.ptr 1 0)), (40, .agg (A4_Field.cells a0.F)), (41, .one (li .i64 1))] [(1, some (.cells (Delta.cells a0)))] (by kernel_rfl) (by kernel_rfl) (by kernel_rfl) ?_
        exact F77_u6_ok n a0

def F77 (n : Nat) (a0 : Delta) : Option Bool :=
  if decide (a0.ID < 0) then
    some false
  else
    if decide ((1000000 : Int) < a0.ID) then
      some false
    else
      if a0.Mask == 0 then
        some false
      else
        if decide ((31 : Int) < a0.Mask) then
          some false
        else
          if (bitsI .and .u8 a0.Mask 1) == 0 then
            if !(Point.eqb a0.At (Point.mk 0 0)) then
              some false
            else
              (F67 n a0.At).bind fun (r1 : Bool) =>
              if !(r1) then
                some false
              else
                F77_j3 n a0
          else
            (F67 n a0.At).bind fun (r2 : Bool) =>
            if !(r2) then
              some false
            else
              F77_j3 n a0
theorem F77_ok (n : Nat) (a0 : Delta) : ∀ r, F77 n a0 = some r → D 77 [.agg (Delta.cells a0)] [] = some (F77_e r) := by
  refine fn_to (D := D) (n := n + 8) (nt := 61) (rs := pc77_r) (c := pc77_c44) (L := [(0, .agg (Delta.cells a0))]) (M := []) (k := 0) rfl rfl rfl rfl rfl rfl rfl ?_
  unfold F77
  refine Sim.seq ?_
  refine Sim.region0 ?_
  refine SimI.run 2 [(2, .one (lb false)), (1, .one (.ptr 1 0))] [(1, some (.cells (Delta.cells a0)))] (by kernel_rfl) ?_
  refine SimI.done (by kernel_rfl) ?_
  refine SimE.thenN ?_
  refine Sim.seq ?_
  refine Sim.seq ?_
  refine Sim.region0 ?_
  refine SimI.run 4 [(8, .one (lb (decide (a0.ID < 0)))), (7, .one (lb (decide (a0.ID < 0)))), (6, .one (li .i64 a0.ID)), (5, .one (.ptr 1 0))] [] (by kernel_rfl) ?_
  refine SimI.split 8 (decide (a0.ID < 0)) (by kernel_rfl) ?_ ?_
  · refine SimI.run 14 [(22, .one (lb true)), (21, .tup []), (20, .tup []), (19, .tup []), (18, .one (lb true)), (17, .one (lb true)), (16, .tup []), (15, .tup []), (14, .tup []), (13, .one (lb true)), (12, .one (lb true)), (11, .tup []), (10, .tup []), (9, .tup [])] [] (by kernel_rfl) ?_
    refine SimI.done (by kernel_rfl) ?_
    refine SimE.thenN ?_
    refine Sim.condT (by kernel_rfl) ?_
    refine Sim.seq ?_
    refine Sim.region0 ?_
    refine SimI.run 1 [(2, .one (lb false))] [] (by kernel_rfl) ?_
    refine SimI.done (by kernel_rfl) ?_
    refine SimE.thenN ?_
    refine Sim.ret ?_
    refine SimE.thenR ?_
    exact SimE.fin (by kernel_rfl)
  · refine SimI.run 5 [(13, .one (lb (decide ((1000000 : Int) < a0.ID)))), (12, .one (lb (decide ((1000000 : Int) < a0.ID)))), (11, .one (lb (decide ((1000000 : Int) < a0.ID)))), (10, .one (li .i64 a0.ID)), (9, .one (.ptr 1 0))] [] (by kernel_rfl) ?_
    refine SimI.split 13 (decide ((1000000 : Int) < a0.ID)) (by kernel_rfl) ?_ ?_
    · refine SimI.run 9 [(22, .one (lb true)), (21, .tup []), (20, .tup []), (19, .tup []), (18, .one (lb true)), (17, .one (lb true)), (16, .tup []), (15, .tup []), (14, .tup [])] [] (by kernel_rfl) ?_
      refine SimI.done (by kernel_rfl) ?_
      refine SimE.thenN ?_
      refine Sim.condT (by kernel_rfl) ?_
      refine Sim.seq ?_
      refine Sim.region0 ?_
      refine SimI.run 1 [(2, .one (lb false))] [] (by kernel_rfl) ?_
      refine SimI.done (by kernel_rfl) ?_
      refine SimE.thenN ?_
      refine Sim.ret ?_
      refine SimE.thenR ?_
      exact SimE.fin (by kernel_rfl)
    · refine SimI.run 5 [(18, .one (lb (a0.Mask == 0))), (17, .one (lb (a0.Mask == 0))), (16, .one (lb (a0.Mask == 0))), (15, .one (li .u8 a0.Mask)), (14, .one (.ptr 1 1))] [] (by kernel_rfl) ?_
      refine SimI.split 18 (a0.Mask == 0) (by kernel_rfl) ?_ ?_
      · refine SimI.run 4 [(22, .one (lb true)), (21, .tup []), (20, .tup []), (19, .tup [])] [] (by kernel_rfl) ?_
        refine SimI.done (by kernel_rfl) ?_
        refine SimE.thenN ?_
        refine Sim.condT (by kernel_rfl) ?_
        refine Sim.seq ?_
        refine Sim.region0 ?_
        refine SimI.run 1 [(2, .one (lb false))] [] (by kernel_rfl) ?_
        refine SimI.done (by kernel_rfl) ?_
        refine SimE.thenN ?_
        refine Sim.ret ?_
        refine SimE.thenR ?_
        exact SimE.fin (by kernel_rfl)
      · refine SimI.run 4 [(22, .one (lb (decide ((31 : Int) < a0.Mask)))), (21, .one (lb (decide ((31 : Int) < a0.Mask)))), (20, .one (li .u8 a0.Mask)), (19, .one (.ptr 1 1))] [] (by kernel_rfl) ?_
        refine SimI.done (by kernel_rfl) ?_
        refine SimE.thenN ?_
        refine Sim.cond (decide ((31 : Int) < a0.Mask)) (by kernel_rfl) ?_ ?_
        · refine Sim.seq ?_
          refine Sim.region0 ?_
          refine SimI.run 1 [(2, .one (lb false))] [] (by kernel_rfl) ?_
          refine SimI.done (by kernel_rfl) ?_
          refine SimE.thenN ?_
          refine Sim.ret ?_
          refine SimE.thenR ?_
          exact SimE.fin (by kernel_rfl)
        · refine Sim.skip ?_
          refine SimE.thenN ?_
          refine Sim.seq ?_
          refine Sim.seq ?_
          refine Sim.region0 ?_
          refine SimI.run 5 [(27, .one (lb ((bitsI .and .u8 a0.Mask 1) == 0))), (26, .one (lb ((bitsI .and .u8 a0.Mask 1) == 0))), (25, .one (li .u8 (bitsI .and .u8 a0.Mask 1))), (24, .one (li .u8 a0.Mask)), (23, .one (.ptr 1 1))] [] (by kernel_rfl) ?_
          refine SimI.split 27 ((bitsI .and .u8 a0.Mask 1) == 0) (by kernel_rfl) ?_ ?_
          · refine SimI.run 3 [(30, .agg [li .i64 0, li .i64 0]), (29, .agg [li .i64 a0.At.X, li .i64 a0.At.Y]), (28, .one (.ptr 1 2))] [] (by kernel_rfl) ?_
            refine SimI.step { dst := some 31, op := POp.prim (Prim.bin BinOp.neq 23 false false) [Operand.tmp 29, Operand.tmp 30], guard := some (27, true), hints := [] } [(31, .one (lb (!(Point.eqb a0.At (Point.mk 0 0)))))] [] (by kernel_rfl) (pOp_eff (by kernel_rfl) (by kernel_rfl) (eff_prim (by kernel_rfl) (Point_eqn a0.At (Point.mk 0 0) _ _))) ?_
            refine SimI.run 2 [(33, .one (lb (!(Point.eqb a0.At (Point.mk 0 0))))), (32, .one (lb (!(Point.eqb a0.At (Point.mk 0 0)))))] [] (by kernel_rfl) ?_
            refine SimI.split 33 (!(Point.eqb a0.At (Point.mk 0 0))) (by kernel_rfl) ?_ ?_
            · refine SimI.run 5 [(38, .one (lb true)), (37, .tup []), (36, .tup []), (35, .tup []), (34, .tup [])] [] (by kernel_rfl) ?_
              refine SimI.done (by kernel_rfl) ?_
              refine SimE.thenN ?_
              refine Sim.condT (by kernel_rfl) ?_
              refine Sim.seq ?_
              refine Sim.region0 ?_
              refine SimI.run 1 [(2, .one (lb false))] [] (by kernel_rfl) ?_
              refine SimI.done (by kernel_rfl) ?_
              refine SimE.thenN ?_
              refine Sim.ret ?_
              refine SimE.thenR ?_
              exact SimE.fin (by kernel_rfl)
            · refine SimI.run 2 [(35, .agg [li .i64 a0.At.X, li .i64 a0.At.Y]), (34, .one (.ptr 1 2))] [] (by kernel_rfl) ?_
              refine SimI.bind (og := F67 n a0.At) { dst := some 36, op := POp.call true [[]] 67 [Operand.tmp 35], guard := some (33, false), hints := [] } (fun r1 => [(36, .one (lb r1))]) (fun r1 => []) (by kernel_rfl) (fun r1 hr => pOp_eff (by kernel_rfl) (by kernel_rfl) (eff_call (ARGS := [.agg [li .i64 a0.At.X, li .i64 a0.At.Y]]) (by kernel_rfl) (args_clean (by kernel_rfl) args_nil) (F67_ok n a0.At r1 hr) (by kernel_rfl))) (fun r1 => ?_)
              refine SimI.run 2 [(38, .one (lb (!(r1)))), (37, .one (lb (!(r1))))] [] (by kernel_rfl) ?_
              refine SimI.done (by kernel_rfl) ?_
              refine SimE.thenN ?_
              refine Sim.cond (!(r1)) (by kernel_rfl) ?_ ?_
              · refine Sim.seq ?_
                refine Sim.region0 ?_
                refine SimI.run 1 [(2, .one (lb false))] [] (by kernel_rfl) ?_
                refine SimI.done (by kernel_rfl) ?_
                refine SimE.thenN ?_
                refine Sim.ret ?_
                refine SimE.thenR ?_
                exact SimE.fin (by kernel_rfl)
              · refine Sim.skip ?_
                refine SimE.thenN ?_
                refine Sim.pre (ts := [1]) (os := [1]) (ow := []) [(1, .one (.ptr 1 0))] [(1, some (.cells (Delta.cells a0)))] (by kernel_rfl) (by kernel_rfl) (by kernel_rfl) ?_
                exact F77_j3_ok n a0
          · refine SimI.run 8 [(35, .agg [li .i64 a0.At.X, li .i64 a0.At.Y]), (34, .one (.ptr 1 2)), (33, .one (lb false)), (32, .one (lb false)), (31, .tup []), (30, .tup []), (29, .tup []), (28, .tup [])] [] (by kernel_rfl) ?_
            refine SimI.bind (og := F67 n a0.At) { dst := some 36, op := POp.call true [[]] 67 [Operand.tmp 35], guard := some (33, false), hints := [] } (fun r2 => [(36, .one (lb r2))]) (fun r2 => []) (by kernel_rfl) (fun r2 hr => pOp_eff (by kernel_rfl) (by kernel_rfl) (eff_call (ARGS := [.agg [li .i64 a0.At.X, li .i64 a0.At.Y]]) (by kernel_rfl) (args_clean (by kernel_rfl) args_nil) (F67_ok n a0.At r2 hr) (by kernel_rfl))) (fun r2 => ?_)
            refine SimI.run 2 [(38, .one (lb (!(r2)))), (37, .one (lb (!(r2))))] [] (by kernel_rfl) ?_
            refine SimI.done (by kernel_rfl) ?_
            refine SimE.thenN ?_
            refine Sim.cond (!(r2)) (by kernel_rfl) ?_ ?_
            · refine Sim.seq ?_
              refine Sim.region0 ?_
              refine SimI.run 1 [(2, .one (lb false))] [] (by kernel_rfl) ?_
              refine SimI.done (by kernel_rfl) ?_
              refine SimE.thenN ?_
              refine Sim.ret ?_
              refine SimE.thenR ?_
              exact SimE.fin (by kernel_rfl)
            · refine Sim.skip ?_
              refine SimE.thenN ?_
              refine Sim.pre (ts := [1]) (os := [1]) (ow := []) [(1, .one (.ptr 1 0))] [(1, some (.cells (Delta.cells a0)))] (by kernel_rfl) (by kernel_rfl) (by kernel_rfl) ?_
              exact F77_j3_ok n a0


-- 100: vedette/num.Text
def F100_e : ByteArray → PV × List Ob := fun r => (.one (ls r), [])
def F100 (n : Nat) (a0 : ByteArray) : Option ByteArray :=
  (F65 n (IntKind.wrap .u64 (a0.size : Int))).bind fun (r1 : ByteArray) =>
  if r1.size + a0.size ≤ 9223372036854775807 then
    some (r1 ++ a0)
  else none
theorem F100_ok (n : Nat) (a0 : ByteArray) : ∀ r, F100 n a0 = some r → D 100 [.one (ls a0)] [] = some (F100_e r) := by
  refine fn_to (D := D) (n := n + 8) (nt := 9) (rs := pc100_r) (c := pc100_c5) (L := [(0, .one (ls a0))]) (M := []) (k := 0) rfl rfl rfl rfl rfl rfl rfl ?_
  unfold F100
  refine Sim.seq ?_
  refine Sim.region0 ?_
  refine SimI.run 1 [(2, .one (ls ByteArray.empty))] [] (by kernel_rfl) ?_
  refine SimI.done (by kernel_rfl) ?_
  refine SimE.thenN ?_
  refine Sim.seq ?_
  refine Sim.region0 ?_
  refine SimI.run 3 [(5, .one (li .u64 (IntKind.wrap .u64 (a0.size : Int)))), (4, .one (li .i64 (a0.size : Int))), (3, .one (ls a0))] [] (by kernel_rfl) ?_
  refine SimI.bind (og := F65 n (IntKind.wrap .u64 (a0.size : Int))) { dst := some 6, op := POp.call true [[]] 65 [Operand.tmp 5], guard := none, hints := [] } (fun r1 => [(6, .one (ls r1))]) (fun r1 => []) (by kernel_rfl) (fun r1 hr => pOp_eff (by kernel_rfl) (by kernel_rfl) (eff_call (ARGS := [.one (li .u64 (IntKind.wrap .u64 (a0.size : Int)))]) (by kernel_rfl) (args_clean (by kernel_rfl) args_nil) (F65_ok n (IntKind.wrap .u64 (a0.size : Int)) r1 hr) (by kernel_rfl))) (fun r1 => ?_)
  refine SimI.run 1 [(7, .one (ls a0))] [] (by kernel_rfl) ?_
  refine SimI.guard (c := r1.size + a0.size ≤ 9223372036854775807) { dst := some 8, op := POp.prim (Prim.bin BinOp.add 9 false false) [Operand.tmp 6, Operand.tmp 7], guard := none, hints := [] } [(8, .one (ls (r1 ++ a0)))] [] (by kernel_rfl) (fun hc => pOp_eff (by kernel_rfl) (by kernel_rfl) (eff_prim (by kernel_rfl) (pr_addS _ _ _ r1 a0 hc))) ?_
  refine SimI.run 1 [(2, .one (ls (r1 ++ a0)))] [] (by kernel_rfl) ?_
  refine SimI.done (by kernel_rfl) ?_
  refine SimE.thenN ?_
  refine Sim.ret ?_
  exact SimE.fin (by kernel_rfl)


-- 114: vedette/num.Zig
def F114_e : Int → PV × List Ob := fun r => (.one (li .u64 r), [])
def F114 (n : Nat) (a0 : Int) : Option Int :=
  some (bitsI .xor .u64 (shlI .u64 (IntKind.wrap .u64 a0) 1) (IntKind.wrap .u64 (shrI .i64 a0 63)))
theorem F114_ok (n : Nat) (a0 : Int) : ∀ r, F114 n a0 = some r → D 114 [.one (li .i64 a0)] [] = some (F114_e r) := by
  refine fn_to (D := D) (n := n + 8) (nt := 10) (rs := pc114_r) (c := pc114_c5) (L := [(0, .one (li .i64 a0))]) (M := []) (k := 0) rfl rfl rfl rfl rfl rfl rfl ?_
  unfold F114
  refine Sim.seq ?_
  refine Sim.region0 ?_
  refine SimI.run 1 [(2, .one (li .u64 0))] [] (by kernel_rfl) ?_
  refine SimI.done (by kernel_rfl) ?_
  refine SimE.thenN ?_
  refine Sim.seq ?_
  refine Sim.region0 ?_
  refine SimI.run 8 [(2, .one (li .u64 (bitsI .xor .u64 (shlI .u64 (IntKind.wrap .u64 a0) 1) (IntKind.wrap .u64 (shrI .i64 a0 63))))), (9, .one (li .u64 (bitsI .xor .u64 (shlI .u64 (IntKind.wrap .u64 a0) 1) (IntKind.wrap .u64 (shrI .i64 a0 63))))), (8, .one (li .u64 (IntKind.wrap .u64 (shrI .i64 a0 63)))), (7, .one (li .i64 (shrI .i64 a0 63))), (6, .one (li .i64 a0)), (5, .one (li .u64 (shlI .u64 (IntKind.wrap .u64 a0) 1))), (4, .one (li .u64 (IntKind.wrap .u64 a0))), (3, .one (li .i64 a0))] [] (by kernel_rfl) ?_
  refine SimI.done (by kernel_rfl) ?_
  refine SimE.thenN ?_
  refine Sim.ret ?_
  exact SimE.fin (by kernel_rfl)


-- 101: vedette/num.Int
def F101_e : ByteArray → PV × List Ob := fun r => (.one (ls r), [])
def F101 (n : Nat) (a0 : Int) : Option ByteArray :=
  (F114 n a0).bind fun (r1 : Int) =>
  (F65 n r1).bind fun (r2 : ByteArray) =>
  some r2
theorem F101_ok (n : Nat) (a0 : Int) : ∀ r, F101 n a0 = some r → D 101 [.one (li .i64 a0)] [] = some (F101_e r) := by
  refine fn_to (D := D) (n := n + 8) (nt := 6) (rs := pc101_r) (c := pc101_c5) (L := [(0, .one (li .i64 a0))]) (M := []) (k := 0) rfl rfl rfl rfl rfl rfl rfl ?_
  unfold F101
  refine Sim.seq ?_
  refine Sim.region0 ?_
  refine SimI.run 1 [(2, .one (ls ByteArray.empty))] [] (by kernel_rfl) ?_
  refine SimI.done (by kernel_rfl) ?_
  refine SimE.thenN ?_
  refine Sim.seq ?_
  refine Sim.region0 ?_
  refine SimI.run 1 [(3, .one (li .i64 a0))] [] (by kernel_rfl) ?_
  refine SimI.bind (og := F114 n a0) { dst := some 4, op := POp.call true [[]] 114 [Operand.tmp 3], guard := none, hints := [] } (fun r1 => [(4, .one (li .u64 r1))]) (fun r1 => []) (by kernel_rfl) (fun r1 hr => pOp_eff (by kernel_rfl) (by kernel_rfl) (eff_call (ARGS := [.one (li .i64 a0)]) (by kernel_rfl) (args_clean (by kernel_rfl) args_nil) (F114_ok n a0 r1 hr) (by kernel_rfl))) (fun r1 => ?_)
  refine SimI.bind (og := F65 n r1) { dst := some 5, op := POp.call true [[]] 65 [Operand.tmp 4], guard := none, hints := [] } (fun r2 => [(5, .one (ls r2))]) (fun r2 => []) (by kernel_rfl) (fun r2 hr => pOp_eff (by kernel_rfl) (by kernel_rfl) (eff_call (ARGS := [.one (li .u64 r1)]) (by kernel_rfl) (args_clean (by kernel_rfl) args_nil) (F65_ok n r1 r2 hr) (by kernel_rfl))) (fun r2 => ?_)
  refine SimI.run 1 [(2, .one (ls r2))] [] (by kernel_rfl) ?_
  refine SimI.done (by kernel_rfl) ?_
  refine SimE.thenN ?_
  refine Sim.ret ?_
  exact SimE.fin (by kernel_rfl)


-- 63: vedette/fields.Bytes
def F63_e : (ByteArray × Int) → PV × List Ob := fun r => (.tup [.one (ls r.1), .one (li .i64 r.2)], [])
def F63_u27 (n : Nat) (s26 : ByteArray) : Option (ByteArray × Int) :=
    some (s26, 0)
theorem F63_u27_ok (n : Nat) (a0 : Delta) (s26 : ByteArray) : SimL Try.prog D (n + 8) (n + 4) pc63_c39 [(1, .one (.ptr 1 0)), (4, .one (ls s26)), (37, .agg (A4_Field.cells a0.F)), (38, .one (li .i64 4))] [(1, some (.cells (Delta.cells a0)))] (F63_u27 n s26) (QB 0 (QT Try.prog D (n + 8) pc63_c45 (QF false pc63_r 0 F63_e))) := by
    unfold F63_u27
    refine SimL.succ ?_
    refine Sim.seq ?_
    refine Sim.region [(1, .one (.ptr 1 0)), (4, .one (ls s26)), (37, .agg (A4_Field.cells a0.F)), (38, .one (li .i64 4))] [(1, some (.cells (Delta.cells a0)))] (by kernel_rfl) ?_
    refine SimI.run 1 [(39, .one (lb false))] [] (by kernel_rfl) ?_
    refine SimI.done (by kernel_rfl) ?_
    refine SimE.thenN ?_
    refine Sim.seq ?_
    refine Sim.condF (by kernel_rfl) ?_
    refine Sim.exit ?_
    refine SimE.thenX ?_
    refine SimE.loopX ?_
    refine SimE.blockX ?_
    refine SimE.thenN ?_
    refine Sim.seq ?_
    refine Sim.region0 ?_
    refine SimI.run 3 [(3, .one (li .i64 0)), (2, .one (ls s26)), (61, .one (ls s26))] [] (by kernel_rfl) ?_
    refine SimI.done (by kernel_rfl) ?_
    refine SimE.thenN ?_
    refine Sim.ret ?_
    exact SimE.fin (by kernel_rfl)

def F63_u22 (n : Nat) (a0 : Delta) (s21 : ByteArray) : Option (ByteArray × Int) :=
    (F99 n a0.Mask 3).bind fun (r23 : Bool) =>
    if !(r23) then
      F63_u27 n s21
    else
      (F100 n a0.F.a3.Text).bind fun (r24 : ByteArray) =>
      if s21.size + r24.size ≤ 9223372036854775807 then
        if a0.F.a3.Text.toList == ByteArray.empty.toList then
          (F101 n a0.F.a3.N).bind fun (r25 : ByteArray) =>
          if (s21 ++ r24).size + r25.size ≤ 9223372036854775807 then
            F63_u27 n ((s21 ++ r24) ++ r25)
          else none
        else
          F63_u27 n (s21 ++ r24)
      else none
theorem F63_u22_ok (n : Nat) (a0 : Delta) (s21 : ByteArray) : SimL Try.prog D (n + 8) (n + 5) pc63_c39 [(1, .one (.ptr 1 0)), (4, .one (ls s21)), (37, .agg (A4_Field.cells a0.F)), (38, .one (li .i64 3))] [(1, some (.cells (Delta.cells a0)))] (F63_u22 n a0 s21) (QB 0 (QT Try.prog D (n + 8) pc63_c45 (QF false pc63_r 0 F63_e))) := by
    unfold F63_u22
    refine SimL.succ ?_
    refine Sim.seq ?_
    refine Sim.region [(1, .one (.ptr 1 0)), (4, .one (ls s21)), (37, .agg (A4_Field.cells a0.F)), (38, .one (li .i64 3))] [(1, some (.cells (Delta.cells a0)))] (by kernel_rfl) ?_
    refine SimI.run 1 [(39, .one (lb true))] [] (by kernel_rfl) ?_
    refine SimI.done (by kernel_rfl) ?_
    refine SimE.thenN ?_
    refine Sim.seq ?_
    refine Sim.condT (by kernel_rfl) ?_
    refine Sim.skip ?_
    refine SimE.thenN ?_
    refine Sim.seq ?_
    refine Sim.block ?_
    refine Sim.seq ?_
    refine Sim.region0 ?_
    refine SimI.run 5 [(5, .one (li .i64 3)), (6, .one (.ptr 6 0)), (41, .agg [li .i64 a0.F.a3.N, ls a0.F.a3.Text]), (40, .one (li .i64 3))] [(6, some (.cells [li .i64 a0.F.a3.N, ls a0.F.a3.Text])), (6, some (.cells [li .i64 0, ls ByteArray.empty]))] (by kernel_rfl) ?_
    refine SimI.done (by kernel_rfl) ?_
    refine SimE.thenN ?_
    refine Sim.seq ?_
    refine Sim.seq ?_
    refine Sim.region0 ?_
    refine SimI.run 3 [(44, .one (li .i64 3)), (43, .one (li .u8 a0.Mask)), (42, .one (.ptr 1 1))] [] (by kernel_rfl) ?_
    refine SimI.bind (og := F99 n a0.Mask 3) { dst := some 45, op := POp.call true [[], []] 99 [Operand.tmp 43, Operand.tmp 44], guard := none, hints := [] } (fun r23 => [(45, .one (lb r23))]) (fun r23 => []) (by kernel_rfl) (fun r23 hr => pOp_eff (by kernel_rfl) (by kernel_rfl) (eff_call (ARGS := [.one (li .u8 a0.Mask), .one (li .i64 3)]) (by kernel_rfl) (args_clean (by kernel_rfl) (args_clean (by kernel_rfl) args_nil)) (F99_ok n a0.Mask 3 r23 hr) (by kernel_rfl))) (fun r23 => ?_)
    refine SimI.run 1 [(46, .one (lb (!(r23))))] [] (by kernel_rfl) ?_
    refine SimI.done (by kernel_rfl) ?_
    refine SimE.thenN ?_
    refine Sim.cond (!(r23)) (by kernel_rfl) ?_ ?_
    · refine Sim.exit ?_
      refine SimE.thenX ?_
      refine SimE.blockX ?_
      refine SimE.thenN ?_
      refine Sim.region0 ?_
      refine SimI.run 2 [(38, .one (li .i64 4)), (60, .one (li .i64 4))] [] (by kernel_rfl) ?_
      refine SimI.done (by kernel_rfl) ?_
      refine SimE.loopN ?_
      refine SimL.pre (ts := [1, 4, 37, 38]) (os := [1, 6]) (ow := []) [(1, .one (.ptr 1 0)), (4, .one (ls s21)), (37, .agg (A4_Field.cells a0.F)), (38, .one (li .i64 4))] [(1, some (.cells (Delta.cells a0)))] (by kernel_rfl) (by kernel_rfl) (by kernel_rfl) ?_
      exact F63_u27_ok n a0 s21
    · refine Sim.skip ?_
      refine SimE.thenN ?_
      refine Sim.seq ?_
      refine Sim.region0 ?_
      refine SimI.run 3 [(49, .one (ls a0.F.a3.Text)), (48, .one (.ptr 6 1)), (47, .one (ls s21))] [] (by kernel_rfl) ?_
      refine SimI.bind (og := F100 n a0.F.a3.Text) { dst := some 50, op := POp.call true [[]] 100 [Operand.tmp 49], guard := none, hints := [] } (fun r24 => [(50, .one (ls r24))]) (fun r24 => []) (by kernel_rfl) (fun r24 hr => pOp_eff (by kernel_rfl) (by kernel_rfl) (eff_call (ARGS := [.one (ls a0.F.a3.Text)]) (by kernel_rfl) (args_clean (by kernel_rfl) args_nil) (F100_ok n a0.F.a3.Text r24 hr) (by kernel_rfl))) (fun r24 => ?_)
      refine SimI.guard (c := s21.size + r24.size ≤ 9223372036854775807) { dst := some 51, op := POp.prim (Prim.bin BinOp.add 9 false false) [Operand.tmp 47, Operand.tmp 50], guard := none, hints := [] } [(51, .one (ls (s21 ++ r24)))] [] (by kernel_rfl) (fun hc => pOp_eff (by kernel_rfl) (by kernel_rfl) (eff_prim (by kernel_rfl) (pr_addS _ _ _ s21 r24 hc))) ?_
      refine SimI.run 1 [(4, .one (ls (s21 ++ r24)))] [] (by kernel_rfl) ?_
      refine SimI.done (by kernel_rfl) ?_
      refine SimE.thenN ?_
      refine Sim.seq ?_
      refine Sim.region0 ?_
      refine SimI.run 3 [(54, .one (lb (a0.F.a3.Text.toList == ByteArray.empty.toList))), (53, .one (ls a0.F.a3.Text)), (52, .one (.ptr 6 1))] [] (by kernel_rfl) ?_
      refine SimI.done (by kernel_rfl) ?_
      refine SimE.thenN ?_
      refine Sim.cond (a0.F.a3.Text.toList == ByteArray.empty.toList) (by kernel_rfl) ?_ ?_
      · refine Sim.region0 ?_
        refine SimI.run 3 [(57, .one (li .i64 a0.F.a3.N)), (56, .one (.ptr 6 0)), (55, .one (ls (s21 ++ r24)))] [] (by kernel_rfl) ?_
        refine SimI.bind (og := F101 n a0.F.a3.N) { dst := some 58, op := POp.call true [[]] 101 [Operand.tmp 57], guard := none, hints := [] } (fun r25 => [(58, .one (ls r25))]) (fun r25 => []) (by kernel_rfl) (fun r25 hr => pOp_eff (by kernel_rfl) (by kernel_rfl) (eff_call (ARGS := [.one (li .i64 a0.F.a3.N)]) (by kernel_rfl) (args_clean (by kernel_rfl) args_nil) (F101_ok n a0.F.a3.N r25 hr) (by kernel_rfl))) (fun r25 => ?_)
        refine SimI.guard (c := (s21 ++ r24).size + r25.size ≤ 9223372036854775807) { dst := some 59, op := POp.prim (Prim.bin BinOp.add 9 false false) [Operand.tmp 55, Operand.tmp 58], guard := none, hints := [] } [(59, .one (ls ((s21 ++ r24) ++ r25)))] [] (by kernel_rfl) (fun hc => pOp_eff (by kernel_rfl) (by kernel_rfl) (eff_prim (by kernel_rfl) (pr_addS _ _ _ (s21 ++ r24) r25 hc))) ?_
        refine SimI.run 1 [(4, .one (ls ((s21 ++ r24) ++ r25)))] [] (by kernel_rfl) ?_
        refine SimI.done (by kernel_rfl) ?_
        refine SimE.blockN ?_
        refine SimE.thenN ?_
        refine Sim.region0 ?_
        refine SimI.run 2 [(38, .one (li .i64 4)), (60, .one (li .i64 4))] [] (by kernel_rfl) ?_
        refine SimI.done (by kernel_rfl) ?_
        refine SimE.loopN ?_
        refine SimL.pre (ts := [1, 4, 37, 38]) (os := [1, 6]) (ow := []) [(1, .one (.ptr 1 0)), (4, .one (ls ((s21 ++ r24) ++ r25))), (37, .agg (A4_Field.cells a0.F)), (38, .one (li .i64 4))] [(1, some (.cells (Delta.cells a0)))] (by kernel_rfl) (by kernel_rfl) (by kernel_rfl) ?_
        exact F63_u27_ok n a0 ((s21 ++ r24) ++ r25)
      · refine Sim.skip ?_
        refine SimE.blockN ?_
        refine SimE.thenN ?_
        refine Sim.region0 ?_
        refine SimI.run 2 [(38, .one (li .i64 4)), (60, .one (li .i64 4))] [] (by kernel_rfl) ?_
        refine SimI.done (by kernel_rfl) ?_
        refine SimE.loopN ?_
        refine SimL.pre (ts := [1, 4, 37, 38]) (os := [1, 6]) (ow := []) [(1, .one (.ptr 1 0)), (4, .one (ls (s21 ++ r24))), (37, .agg (A4_Field.cells a0.F)), (38, .one (li .i64 4))] [(1, some (.cells (Delta.cells a0)))] (by kernel_rfl) (by kernel_rfl) (by kernel_rfl) ?_
        exact F63_u27_ok n a0 (s21 ++ r24)

def F63_u17 (n : Nat) (a0 : Delta) (s16 : ByteArray) : Option (ByteArray × Int) :=
    (F99 n a0.Mask 2).bind fun (r18 : Bool) =>
    if !(r18) then
      F63_u22 n a0 s16
    else
      (F100 n a0.F.a2.Text).bind fun (r19 : ByteArray) =>
      if s16.size + r19.size ≤ 9223372036854775807 then
        if a0.F.a2.Text.toList == ByteArray.empty.toList then
          (F101 n a0.F.a2.N).bind fun (r20 : ByteArray) =>
          if (s16 ++ r19).size + r20.size ≤ 9223372036854775807 then
            F63_u22 n a0 ((s16 ++ r19) ++ r20)
          else none
        else
          F63_u22 n a0 (s16 ++ r19)
      else none
theorem F63_u17_ok (n : Nat) (a0 : Delta) (s16 : ByteArray) : SimL Try.prog D (n + 8) (n + 6) pc63_c39 [(1, .one (.ptr 1 0)), (4, .one (ls s16)), (37, .agg (A4_Field.cells a0.F)), (38, .one (li .i64 2))] [(1, some (.cells (Delta.cells a0)))] (F63_u17 n a0 s16) (QB 0 (QT Try.prog D (n + 8) pc63_c45 (QF false pc63_r 0 F63_e))) := by
    unfold F63_u17
    refine SimL.succ ?_
    refine Sim.seq ?_
    refine Sim.region [(1, .one (.ptr 1 0)), (4, .one (ls s16)), (37, .agg (A4_Field.cells a0.F)), (38, .one (li .i64 2))] [(1, some (.cells (Delta.cells a0)))] (by kernel_rfl) ?_
    refine SimI.run 1 [(39, .one (lb true))] [] (by kernel_rfl) ?_
    refine SimI.done (by kernel_rfl) ?_
    refine SimE.thenN ?_
    refine Sim.seq ?_
    refine Sim.condT (by kernel_rfl) ?_
    refine Sim.skip ?_
    refine SimE.thenN ?_
    refine Sim.seq ?_
    refine Sim.block ?_
    refine Sim.seq ?_
    refine Sim.region0 ?_
    refine SimI.run 5 [(5, .one (li .i64 2)), (6, .one (.ptr 6 0)), (41, .agg [li .i64 a0.F.a2.N, ls a0.F.a2.Text]), (40, .one (li .i64 2))] [(6, some (.cells [li .i64 a0.F.a2.N, ls a0.F.a2.Text])), (6, some (.cells [li .i64 0, ls ByteArray.empty]))] (by kernel_rfl) ?_
    refine SimI.done (by kernel_rfl) ?_
    refine SimE.thenN ?_
    refine Sim.seq ?_
    refine Sim.seq ?_
    refine Sim.region0 ?_
    refine SimI.run 3 [(44, .one (li .i64 2)), (43, .one (li .u8 a0.Mask)), (42, .one (.ptr 1 1))] [] (by kernel_rfl) ?_
    refine SimI.bind (og := F99 n a0.Mask 2) { dst := some 45, op := POp.call true [[], []] 99 [Operand.tmp 43, Operand.tmp 44], guard := none, hints := [] } (fun r18 => [(45, .one (lb r18))]) (fun r18 => []) (by kernel_rfl) (fun r18 hr => pOp_eff (by kernel_rfl) (by kernel_rfl) (eff_call (ARGS := [.one (li .u8 a0.Mask), .one (li .i64 2)]) (by kernel_rfl) (args_clean (by kernel_rfl) (args_clean (by kernel_rfl) args_nil)) (F99_ok n a0.Mask 2 r18 hr) (by kernel_rfl))) (fun r18 => ?_)
    refine SimI.run 1 [(46, .one (lb (!(r18))))] [] (by kernel_rfl) ?_
    refine SimI.done (by kernel_rfl) ?_
    refine SimE.thenN ?_
    refine Sim.cond (!(r18)) (by kernel_rfl) ?_ ?_
    · refine Sim.exit ?_
      refine SimE.thenX ?_
      refine SimE.blockX ?_
      refine SimE.thenN ?_
      refine Sim.region0 ?_
      refine SimI.run 2 [(38, .one (li .i64 3)), (60, .one (li .i64 3))] [] (by kernel_rfl) ?_
      refine SimI.done (by kernel_rfl) ?_
      refine SimE.loopN ?_
      refine SimL.pre (ts := [1, 4, 37, 38]) (os := [1, 6]) (ow := []) [(1, .one (.ptr 1 0)), (4, .one (ls s16)), (37, .agg (A4_Field.cells a0.F)), (38, .one (li .i64 3))] [(1, some (.cells (Delta.cells a0)))] (by kernel_rfl) (by kernel_rfl) (by kernel_rfl) ?_
      exact F63_u22_ok n a0 s16
    · refine Sim.skip ?_
      refine SimE.thenN ?_
      refine Sim.seq ?_
      refine Sim.region0 ?_
      refine SimI.run 3 [(49, .one (ls a0.F.a2.Text)), (48, .one (.ptr 6 1)), (47, .one (ls s16))] [] (by kernel_rfl) ?_
      refine SimI.bind (og := F100 n a0.F.a2.Text) { dst := some 50, op := POp.call true [[]] 100 [Operand.tmp 49], guard := none, hints := [] } (fun r19 => [(50, .one (ls r19))]) (fun r19 => []) (by kernel_rfl) (fun r19 hr => pOp_eff (by kernel_rfl) (by kernel_rfl) (eff_call (ARGS := [.one (ls a0.F.a2.Text)]) (by kernel_rfl) (args_clean (by kernel_rfl) args_nil) (F100_ok n a0.F.a2.Text r19 hr) (by kernel_rfl))) (fun r19 => ?_)
      refine SimI.guard (c := s16.size + r19.size ≤ 9223372036854775807) { dst := some 51, op := POp.prim (Prim.bin BinOp.add 9 false false) [Operand.tmp 47, Operand.tmp 50], guard := none, hints := [] } [(51, .one (ls (s16 ++ r19)))] [] (by kernel_rfl) (fun hc => pOp_eff (by kernel_rfl) (by kernel_rfl) (eff_prim (by kernel_rfl) (pr_addS _ _ _ s16 r19 hc))) ?_
      refine SimI.run 1 [(4, .one (ls (s16 ++ r19)))] [] (by kernel_rfl) ?_
      refine SimI.done (by kernel_rfl) ?_
      refine SimE.thenN ?_
      refine Sim.seq ?_
      refine Sim.region0 ?_
      refine SimI.run 3 [(54, .one (lb (a0.F.a2.Text.toList == ByteArray.empty.toList))), (53, .one (ls a0.F.a2.Text)), (52, .one (.ptr 6 1))] [] (by kernel_rfl) ?_
      refine SimI.done (by kernel_rfl) ?_
      refine SimE.thenN ?_
      refine Sim.cond (a0.F.a2.Text.toList == ByteArray.empty.toList) (by kernel_rfl) ?_ ?_
      · refine Sim.region0 ?_
        refine SimI.run 3 [(57, .one (li .i64 a0.F.a2.N)), (56, .one (.ptr 6 0)), (55, .one (ls (s16 ++ r19)))] [] (by kernel_rfl) ?_
        refine SimI.bind (og := F101 n a0.F.a2.N) { dst := some 58, op := POp.call true [[]] 101 [Operand.tmp 57], guard := none, hints := [] } (fun r20 => [(58, .one (ls r20))]) (fun r20 => []) (by kernel_rfl) (fun r20 hr => pOp_eff (by kernel_rfl) (by kernel_rfl) (eff_call (ARGS := [.one (li .i64 a0.F.a2.N)]) (by kernel_rfl) (args_clean (by kernel_rfl) args_nil) (F101_ok n a0.F.a2.N r20 hr) (by kernel_rfl))) (fun r20 => ?_)
        refine SimI.guard (c := (s16 ++ r19).size + r20.size ≤ 9223372036854775807) { dst := some 59, op := POp.prim (Prim.bin BinOp.add 9 false false) [Operand.tmp 55, Operand.tmp 58], guard := none, hints := [] } [(59, .one (ls ((s16 ++ r19) ++ r20)))] [] (by kernel_rfl) (fun hc => pOp_eff (by kernel_rfl) (by kernel_rfl) (eff_prim (by kernel_rfl) (pr_addS _ _ _ (s16 ++ r19) r20 hc))) ?_
        refine SimI.run 1 [(4, .one (ls ((s16 ++ r19) ++ r20)))] [] (by kernel_rfl) ?_
        refine SimI.done (by kernel_rfl) ?_
        refine SimE.blockN ?_
        refine SimE.thenN ?_
        refine Sim.region0 ?_
        refine SimI.run 2 [(38, .one (li .i64 3)), (60, .one (li .i64 3))] [] (by kernel_rfl) ?_
        refine SimI.done (by kernel_rfl) ?_
        refine SimE.loopN ?_
        refine SimL.pre (ts := [1, 4, 37, 38]) (os := [1, 6]) (ow := []) [(1, .one (.ptr 1 0)), (4, .one (ls ((s16 ++ r19) ++ r20))), (37, .agg (A4_Field.cells a0.F)), (38, .one (li .i64 3))] [(1, some (.cells (Delta.cells a0)))] (by kernel_rfl) (by kernel_rfl) (by kernel_rfl) ?_
        exact F63_u22_ok n a0 ((s16 ++ r19) ++ r20)
      · refine Sim.skip ?_
        refine SimE.blockN ?_
        refine SimE.thenN ?_
        refine Sim.region0 ?_
        refine SimI.run 2 [(38, .one (li .i64 3)), (60, .one (li .i64 3))] [] (by kernel_rfl) ?_
        refine SimI.done (by kernel_rfl) ?_
        refine SimE.loopN ?_
        refine SimL.pre (ts := [1, 4, 37, 38]) (os := [1, 6]) (ow := []) [(1, .one (.ptr 1 0)), (4, .one (ls (s16 ++ r19))), (37, .agg (A4_Field.cells a0.F)), (38, .one (li .i64 3))] [(1, some (.cells (Delta.cells a0)))] (by kernel_rfl) (by kernel_rfl) (by kernel_rfl) ?_
        exact F63_u22_ok n a0 (s16 ++ r19)

def F63_u12 (n : Nat) (a0 : Delta) (s11 : ByteArray) : Option (ByteArray × Int) :=
    (F99 n a0.Mask 1).bind fun (r13 : Bool) =>
    if !(r13) then
      F63_u17 n a0 s11
    else
      (F100 n a0.F.a1.Text).bind fun (r14 : ByteArray) =>
      if s11.size + r14.size ≤ 9223372036854775807 then
        if a0.F.a1.Text.toList == ByteArray.empty.toList then
          (F101 n a0.F.a1.N).bind fun (r15 : ByteArray) =>
          if (s11 ++ r14).size + r15.size ≤ 9223372036854775807 then
            F63_u17 n a0 ((s11 ++ r14) ++ r15)
          else none
        else
          F63_u17 n a0 (s11 ++ r14)
      else none
theorem F63_u12_ok (n : Nat) (a0 : Delta) (s11 : ByteArray) : SimL Try.prog D (n + 8) (n + 7) pc63_c39 [(1, .one (.ptr 1 0)), (4, .one (ls s11)), (37, .agg (A4_Field.cells a0.F)), (38, .one (li .i64 1))] [(1, some (.cells (Delta.cells a0)))] (F63_u12 n a0 s11) (QB 0 (QT Try.prog D (n + 8) pc63_c45 (QF false pc63_r 0 F63_e))) := by
    unfold F63_u12
    refine SimL.succ ?_
    refine Sim.seq ?_
    refine Sim.region [(1, .one (.ptr 1 0)), (4, .one (ls s11)), (37, .agg (A4_Field.cells a0.F)), (38, .one (li .i64 1))] [(1, some (.cells (Delta.cells a0)))] (by kernel_rfl) ?_
    refine SimI.run 1 [(39, .one (lb true))] [] (by kernel_rfl) ?_
    refine SimI.done (by kernel_rfl) ?_
    refine SimE.thenN ?_
    refine Sim.seq ?_
    refine Sim.condT (by kernel_rfl) ?_
    refine Sim.skip ?_
    refine SimE.thenN ?_
    refine Sim.seq ?_
    refine Sim.block ?_
    refine Sim.seq ?_
    refine Sim.region0 ?_
    refine SimI.run 5 [(5, .one (li .i64 1)), (6, .one (.ptr 6 0)), (41, .agg [li .i64 a0.F.a1.N, ls a0.F.a1.Text]), (40, .one (li .i64 1))] [(6, some (.cells [li .i64 a0.F.a1.N, ls a0.F.a1.Text])), (6, some (.cells [li .i64 0, ls ByteArray.empty]))] (by kernel_rfl) ?_
    refine SimI.done (by kernel_rfl) ?_
    refine SimE.thenN ?_
    refine Sim.seq ?_
    refine Sim.seq ?_
    refine Sim.region0 ?_
    refine SimI.run 3 [(44, .one (li .i64 1)), (43, .one (li .u8 a0.Mask)), (42, .one (.ptr 1 1))] [] (by kernel_rfl) ?_
    refine SimI.bind (og := F99 n a0.Mask 1) { dst := some 45, op := POp.call true [[], []] 99 [Operand.tmp 43, Operand.tmp 44], guard := none, hints := [] } (fun r13 => [(45, .one (lb r13))]) (fun r13 => []) (by kernel_rfl) (fun r13 hr => pOp_eff (by kernel_rfl) (by kernel_rfl) (eff_call (ARGS := [.one (li .u8 a0.Mask), .one (li .i64 1)]) (by kernel_rfl) (args_clean (by kernel_rfl) (args_clean (by kernel_rfl) args_nil)) (F99_ok n a0.Mask 1 r13 hr) (by kernel_rfl))) (fun r13 => ?_)
    refine SimI.run 1 [(46, .one (lb (!(r13))))] [] (by kernel_rfl) ?_
    refine SimI.done (by kernel_rfl) ?_
    refine SimE.thenN ?_
    refine Sim.cond (!(r13)) (by kernel_rfl) ?_ ?_
    · refine Sim.exit ?_
      refine SimE.thenX ?_
      refine SimE.blockX ?_
      refine SimE.thenN ?_
      refine Sim.region0 ?_
      refine SimI.run 2 [(38, .one (li .i64 2)), (60, .one (li .i64 2))] [] (by kernel_rfl) ?_
      refine SimI.done (by kernel_rfl) ?_
      refine SimE.loopN ?_
      refine SimL.pre (ts := [1, 4, 37, 38]) (os := [1, 6]) (ow := []) [(1, .one (.ptr 1 0)), (4, .one (ls s11)), (37, .agg (A4_Field.cells a0.F)), (38, .one (li .i64 2))] [(1, some (.cells (Delta.cells a0)))] (by kernel_rfl) (by kernel_rfl) (by kernel_rfl) ?_
      exact F63_u17_ok n a0 s11
    · refine Sim.skip ?_
      refine SimE.thenN ?_
      refine Sim.seq ?_
      refine Sim.region0 ?_
      refine SimI.run 3 [(49, .one (ls a0.F.a1.Text)), (48, .one (.ptr 6 1)), (47, .one (ls s11))] [] (by kernel_rfl) ?_
      refine SimI.bind (og := F100 n a0.F.a1.Text) { dst := some 50, op := POp.call true [[]] 100 [Operand.tmp 49], guard := none, hints := [] } (fun r14 => [(50, .one (ls r14))]) (fun r14 => []) (by kernel_rfl) (fun r14 hr => pOp_eff (by kernel_rfl) (by kernel_rfl) (eff_call (ARGS := [.one (ls a0.F.a1.Text)]) (by kernel_rfl) (args_clean (by kernel_rfl) args_nil) (F100_ok n a0.F.a1.Text r14 hr) (by kernel_rfl))) (fun r14 => ?_)
      refine SimI.guard (c := s11.size + r14.size ≤ 9223372036854775807) { dst := some 51, op := POp.prim (Prim.bin BinOp.add 9 false false) [Operand.tmp 47, Operand.tmp 50], guard := none, hints := [] } [(51, .one (ls (s11 ++ r14)))] [] (by kernel_rfl) (fun hc => pOp_eff (by kernel_rfl) (by kernel_rfl) (eff_prim (by kernel_rfl) (pr_addS _ _ _ s11 r14 hc))) ?_
      refine SimI.run 1 [(4, .one (ls (s11 ++ r14)))] [] (by kernel_rfl) ?_
      refine SimI.done (by kernel_rfl) ?_
      refine SimE.thenN ?_
      refine Sim.seq ?_
      refine Sim.region0 ?_
      refine SimI.run 3 [(54, .one (lb (a0.F.a1.Text.toList == ByteArray.empty.toList))), (53, .one (ls a0.F.a1.Text)), (52, .one (.ptr 6 1))] [] (by kernel_rfl) ?_
      refine SimI.done (by kernel_rfl) ?_
      refine SimE.thenN ?_
      refine Sim.cond (a0.F.a1.Text.toList == ByteArray.empty.toList) (by kernel_rfl) ?_ ?_
      · refine Sim.region0 ?_
        refine SimI.run 3 [(57, .one (li .i64 a0.F.a1.N)), (56, .one (.ptr 6 0)), (55, .one (ls (s11 ++ r14)))] [] (by kernel_rfl) ?_
        refine SimI.bind (og := F101 n a0.F.a1.N) { dst := some 58, op := POp.call true [[]] 101 [Operand.tmp 57], guard := none, hints := [] } (fun r15 => [(58, .one (ls r15))]) (fun r15 => []) (by kernel_rfl) (fun r15 hr => pOp_eff (by kernel_rfl) (by kernel_rfl) (eff_call (ARGS := [.one (li .i64 a0.F.a1.N)]) (by kernel_rfl) (args_clean (by kernel_rfl) args_nil) (F101_ok n a0.F.a1.N r15 hr) (by kernel_rfl))) (fun r15 => ?_)
        refine SimI.guard (c := (s11 ++ r14).size + r15.size ≤ 9223372036854775807) { dst := some 59, op := POp.prim (Prim.bin BinOp.add 9 false false) [Operand.tmp 55, Operand.tmp 58], guard := none, hints := [] } [(59, .one (ls ((s11 ++ r14) ++ r15)))] [] (by kernel_rfl) (fun hc => pOp_eff (by kernel_rfl) (by kernel_rfl) (eff_prim (by kernel_rfl) (pr_addS _ _ _ (s11 ++ r14) r15 hc))) ?_
        refine SimI.run 1 [(4, .one (ls ((s11 ++ r14) ++ r15)))] [] (by kernel_rfl) ?_
        refine SimI.done (by kernel_rfl) ?_
        refine SimE.blockN ?_
        refine SimE.thenN ?_
        refine Sim.region0 ?_
        refine SimI.run 2 [(38, .one (li .i64 2)), (60, .one (li .i64 2))] [] (by kernel_rfl) ?_
        refine SimI.done (by kernel_rfl) ?_
        refine SimE.loopN ?_
        refine SimL.pre (ts := [1, 4, 37, 38]) (os := [1, 6]) (ow := []) [(1, .one (.ptr 1 0)), (4, .one (ls ((s11 ++ r14) ++ r15))), (37, .agg (A4_Field.cells a0.F)), (38, .one (li .i64 2))] [(1, some (.cells (Delta.cells a0)))] (by kernel_rfl) (by kernel_rfl) (by kernel_rfl) ?_
        exact F63_u17_ok n a0 ((s11 ++ r14) ++ r15)
      · refine Sim.skip ?_
        refine SimE.blockN ?_
        refine SimE.thenN ?_
        refine Sim.region0 ?_
        refine SimI.run 2 [(38, .one (li .i64 2)), (60, .one (li .i64 2))] [] (by kernel_rfl) ?_
        refine SimI.done (by kernel_rfl) ?_
        refine SimE.loopN ?_
        refine SimL.pre (ts := [1, 4, 37, 38]) (os := [1, 6]) (ow := []) [(1, .one (.ptr 1 0)), (4, .one (ls (s11 ++ r14))), (37, .agg (A4_Field.cells a0.F)), (38, .one (li .i64 2))] [(1, some (.cells (Delta.cells a0)))] (by kernel_rfl) (by kernel_rfl) (by kernel_rfl) ?_
        exact F63_u17_ok n a0 (s11 ++ r14)

def F63_j7 (n : Nat) (a0 : Delta) (s6 : ByteArray) : Option (ByteArray × Int) :=
    (F99 n a0.Mask 0).bind fun (r8 : Bool) =>
    if !(r8) then
      F63_u12 n a0 s6
    else
      (F100 n a0.F.a0.Text).bind fun (r9 : ByteArray) =>
      if s6.size + r9.size ≤ 9223372036854775807 then
        if a0.F.a0.Text.toList == ByteArray.empty.toList then
          (F101 n a0.F.a0.N).bind fun (r10 : ByteArray) =>
          if (s6 ++ r9).size + r10.size ≤ 9223372036854775807 then
            F63_u12 n a0 ((s6 ++ r9) ++ r10)
          else none
        else
          F63_u12 n a0 (s6 ++ r9)
      else none
theorem F63_j7_ok (n : Nat) (a0 : Delta) (s6 : ByteArray) : Sim Try.prog D (n + 8) pc63_c46 [(1, .one (.ptr 1 0)), (4, .one (ls s6))] [(1, some (.cells (Delta.cells a0)))] (F63_j7 n a0 s6) (QF false pc63_r 0 F63_e) := by
    unfold F63_j7
    refine Sim.seq ?_
    refine Sim.seq ?_
    refine Sim.region [(1, .one (.ptr 1 0)), (4, .one (ls s6))] [(1, some (.cells (Delta.cells a0)))] (by kernel_rfl) ?_
    refine SimI.run 3 [(38, .one (li .i64 0)), (37, .agg (A4_Field.cells a0.F)), (36, .one (.ptr 1 4))] [] (by kernel_rfl) ?_
    refine SimI.done (by kernel_rfl) ?_
    refine SimE.thenN ?_
    refine Sim.block ?_
    refine Sim.loop ?_
    refine SimL.succ ?_
    refine Sim.seq ?_
    refine Sim.region [(1, .one (.ptr 1 0)), (4, .one (ls s6)), (37, .agg (A4_Field.cells a0.F)), (38, .one (li .i64 0))] [(1, some (.cells (Delta.cells a0)))] (by kernel_rfl) ?_
    refine SimI.run 1 [(39, .one (lb true))] [] (by kernel_rfl) ?_
    refine SimI.done (by kernel_rfl) ?_
    refine SimE.thenN ?_
    refine Sim.seq ?_
    refine Sim.condT (by kernel_rfl) ?_
    refine Sim.skip ?_
    refine SimE.thenN ?_
    refine Sim.seq ?_
    refine Sim.block ?_
    refine Sim.seq ?_
    refine Sim.region0 ?_
    refine SimI.run 5 [(5, .one (li .i64 0)), (6, .one (.ptr 6 0)), (41, .agg [li .i64 a0.F.a0.N, ls a0.F.a0.Text]), (40, .one (li .i64 0))] [(6, some (.cells [li .i64 a0.F.a0.N, ls a0.F.a0.Text])), (6, some (.cells [li .i64 0, ls ByteArray.empty]))] (by kernel_rfl) ?_
    refine SimI.done (by kernel_rfl) ?_
    refine SimE.thenN ?_
    refine Sim.seq ?_
    refine Sim.seq ?_
    refine Sim.region0 ?_
    refine SimI.run 3 [(44, .one (li .i64 0)), (43, .one (li .u8 a0.Mask)), (42, .one (.ptr 1 1))] [] (by kernel_rfl) ?_
    refine SimI.bind (og := F99 n a0.Mask 0) { dst := some 45, op := POp.call true [[], []] 99 [Operand.tmp 43, Operand.tmp 44], guard := none, hints := [] } (fun r8 => [(45, .one (lb r8))]) (fun r8 => []) (by kernel_rfl) (fun r8 hr => pOp_eff (by kernel_rfl) (by kernel_rfl) (eff_call (ARGS := [.one (li .u8 a0.Mask), .one (li .i64 0)]) (by kernel_rfl) (args_clean (by kernel_rfl) (args_clean (by kernel_rfl) args_nil)) (F99_ok n a0.Mask 0 r8 hr) (by kernel_rfl))) (fun r8 => ?_)
    refine SimI.run 1 [(46, .one (lb (!(r8))))] [] (by kernel_rfl) ?_
    refine SimI.done (by kernel_rfl) ?_
    refine SimE.thenN ?_
    refine Sim.cond (!(r8)) (by kernel_rfl) ?_ ?_
    · refine Sim.exit ?_
      refine SimE.thenX ?_
      refine SimE.blockX ?_
      refine SimE.thenN ?_
      refine Sim.region0 ?_
      refine SimI.run 2 [(38, .one (li .i64 1)), (60, .one (li .i64 1))] [] (by kernel_rfl) ?_
      refine SimI.done (by kernel_rfl) ?_
      refine SimE.loopN ?_
      refine SimL.pre (ts := [1, 4, 37, 38]) (os := [1, 6]) (ow := []) [(1, .one (.ptr 1 0)), (4, .one (ls s6)), (37, .agg (A4_Field.cells a0.F)), (38, .one (li .i64 1))] [(1, some (.cells (Delta.cells a0)))] (by kernel_rfl) (by kernel_rfl) (by kernel_rfl) ?_
      exact F63_u12_ok n a0 s6
    · refine Sim.skip ?_
      refine SimE.thenN ?_
      refine Sim.seq ?_
      refine Sim.region0 ?_
      refine SimI.run 3 [(49, .one (ls a0.F.a0.Text)), (48, .one (.ptr 6 1)), (47, .one (ls s6))] [] (by kernel_rfl) ?_
      refine SimI.bind (og := F100 n a0.F.a0.Text) { dst := some 50, op := POp.call true [[]] 100 [Operand.tmp 49], guard := none, hints := [] } (fun r9 => [(50, .one (ls r9))]) (fun r9 => []) (by kernel_rfl) (fun r9 hr => pOp_eff (by kernel_rfl) (by kernel_rfl) (eff_call (ARGS := [.one (ls a0.F.a0.Text)]) (by kernel_rfl) (args_clean (by kernel_rfl) args_nil) (F100_ok n a0.F.a0.Text r9 hr) (by kernel_rfl))) (fun r9 => ?_)
      refine SimI.guard (c := s6.size + r9.size ≤ 9223372036854775807) { dst := some 51, op := POp.prim (Prim.bin BinOp.add 9 false false) [Operand.tmp 47, Operand.tmp 50], guard := none, hints := [] } [(51, .one (ls (s6 ++ r9)))] [] (by kernel_rfl) (fun hc => pOp_eff (by kernel_rfl) (by kernel_rfl) (eff_prim (by kernel_rfl) (pr_addS _ _ _ s6 r9 hc))) ?_
      refine SimI.run 1 [(4, .one (ls (s6 ++ r9)))] [] (by kernel_rfl) ?_
      refine SimI.done (by kernel_rfl) ?_
      refine SimE.thenN ?_
      refine Sim.seq ?_
      refine Sim.region0 ?_
      refine SimI.run 3 [(54, .one (lb (a0.F.a0.Text.toList == ByteArray.empty.toList))), (53, .one (ls a0.F.a0.Text)), (52, .one (.ptr 6 1))] [] (by kernel_rfl) ?_
      refine SimI.done (by kernel_rfl) ?_
      refine SimE.thenN ?_
      refine Sim.cond (a0.F.a0.Text.toList == ByteArray.empty.toList) (by kernel_rfl) ?_ ?_
      · refine Sim.region0 ?_
        refine SimI.run 3 [(57, .one (li .i64 a0.F.a0.N)), (56, .one (.ptr 6 0)), (55, .one (ls (s6 ++ r9)))] [] (by kernel_rfl) ?_
        refine SimI.bind (og := F101 n a0.F.a0.N) { dst := some 58, op := POp.call true [[]] 101 [Operand.tmp 57], guard := none, hints := [] } (fun r10 => [(58, .one (ls r10))]) (fun r10 => []) (by kernel_rfl) (fun r10 hr => pOp_eff (by kernel_rfl) (by kernel_rfl) (eff_call (ARGS := [.one (li .i64 a0.F.a0.N)]) (by kernel_rfl) (args_clean (by kernel_rfl) args_nil) (F101_ok n a0.F.a0.N r10 hr) (by kernel_rfl))) (fun r10 => ?_)
        refine SimI.guard (c := (s6 ++ r9).size + r10.size ≤ 9223372036854775807) { dst := some 59, op := POp.prim (Prim.bin BinOp.add 9 false false) [Operand.tmp 55, Operand.tmp 58], guard := none, hints := [] } [(59, .one (ls ((s6 ++ r9) ++ r10)))] [] (by kernel_rfl) (fun hc => pOp_eff (by kernel_rfl) (by kernel_rfl) (eff_prim (by kernel_rfl) (pr_addS _ _ _ (s6 ++ r9) r10 hc))) ?_
        refine SimI.run 1 [(4, .one (ls ((s6 ++ r9) ++ r10)))] [] (by kernel_rfl) ?_
        refine SimI.done (by kernel_rfl) ?_
        refine SimE.blockN ?_
        refine SimE.thenN ?_
        refine Sim.region0 ?_
        refine SimI.run 2 [(38, .one (li .i64 1)), (60, .one (li .i64 1))] [] (by kernel_rfl) ?_
        refine SimI.done (by kernel_rfl) ?_
        refine SimE.loopN ?_
        refine SimL.pre (ts := [1, 4, 37, 38]) (os := [1, 6]) (ow := []) [(1, .one (.ptr 1 0)), (4, .one (ls ((s6 ++ r9) ++ r10))), (37, .agg (A4_Field.cells a0.F)), (38, .one (li .i64 1))] [(1, some (.cells (Delta.cells a0)))] (by kernel_rfl) (by kernel_rfl) (by kernel_rfl) ?_
        exact F63_u12_ok n a0 ((s6 ++ r9) ++ r10)
      · refine Sim.skip ?_
        refine SimE.blockN ?_
        refine SimE.thenN ?_
        refine Sim.region0 ?_
        refine SimI.run 2 [(38, .one (li .i64 1)), (60, .one (li .i64 1))] [] (by kernel_rfl) ?_
        refine SimI.done (by kernel_rfl) ?_
        refine SimE.loopN ?_
        refine SimL.pre (ts := [1, 4, 37, 38]) (os := [1, 6]) (ow := []) [(1, .one (.ptr 1 0)), (4, .one (ls (s6 ++ r9))), (37, .agg (A4_Field.cells a0.F)), (38, .one (li .i64 1))] [(1, some (.cells (Delta.cells a0)))] (by kernel_rfl) (by kernel_rfl) (by kernel_rfl) ?_
        exact F63_u12_ok n a0 (s6 ++ r9)

def F63 (n : Nat) (a0 : Delta) : Option (ByteArray × Int) :=
  (F77 n a0).bind fun (r1 : Bool) =>
  if !(r1) then
    some (ByteArray.empty, 11)
  else
    (F65 n (IntKind.wrap .u64 a0.ID)).bind fun (r2 : ByteArray) =>
    (F65 n (IntKind.wrap .u64 a0.Mask)).bind fun (r3 : ByteArray) =>
    if r2.size + r3.size ≤ 9223372036854775807 then
      if (bitsI .and .u8 a0.Mask 1) != 0 then
        (F65 n (IntKind.wrap .u64 a0.At.X)).bind fun (r4 : ByteArray) =>
        (F65 n (IntKind.wrap .u64 a0.At.Y)).bind fun (r5 : ByteArray) =>
        if r4.size + r5.size ≤ 9223372036854775807 then
          if (r2 ++ r3).size + (r4 ++ r5).size ≤ 9223372036854775807 then
            F63_j7 n a0 ((r2 ++ r3) ++ (r4 ++ r5))
          else none
        else none
      else
        F63_j7 n a0 (r2 ++ r3)
    else none
theorem F63_ok (n : Nat) (a0 : Delta) : ∀ r, F63 n a0 = some r → D 63 [.agg (Delta.cells a0)] [] = some (F63_e r) := by
  refine fn_to (D := D) (n := n + 8) (nt := 62) (rs := pc63_r) (c := pc63_c50) (L := [(0, .agg (Delta.cells a0))]) (M := []) (k := 0) rfl rfl rfl rfl rfl rfl rfl ?_
  unfold F63
  refine Sim.seq ?_
  refine Sim.region0 ?_
  refine SimI.run 3 [(3, .one (li .i64 0)), (2, .one (ls ByteArray.empty)), (1, .one (.ptr 1 0))] [(1, some (.cells (Delta.cells a0)))] (by kernel_rfl) ?_
  refine SimI.done (by kernel_rfl) ?_
  refine SimE.thenN ?_
  refine Sim.seq ?_
  refine Sim.seq ?_
  refine Sim.region0 ?_
  refine SimI.run 1 [(7, .agg (Delta.cells a0))] [] (by kernel_rfl) ?_
  refine SimI.bind (og := F77 n a0) { dst := some 8, op := POp.call true [[]] 77 [Operand.tmp 7], guard := none, hints := [] } (fun r1 => [(8, .one (lb r1))]) (fun r1 => []) (by kernel_rfl) (fun r1 hr => pOp_eff (by kernel_rfl) (by kernel_rfl) (eff_call (ARGS := [.agg (Delta.cells a0)]) (by kernel_rfl) (args_clean (by kernel_rfl) args_nil) (F77_ok n a0 r1 hr) (by kernel_rfl))) (fun r1 => ?_)
  refine SimI.run 1 [(9, .one (lb (!(r1))))] [] (by kernel_rfl) ?_
  refine SimI.done (by kernel_rfl) ?_
  refine SimE.thenN ?_
  refine Sim.cond (!(r1)) (by kernel_rfl) ?_ ?_
  · refine Sim.seq ?_
    refine Sim.region0 ?_
    refine SimI.run 2 [(3, .one (li .i64 11)), (2, .one (ls ByteArray.empty))] [] (by kernel_rfl) ?_
    refine SimI.done (by kernel_rfl) ?_
    refine SimE.thenN ?_
    refine Sim.ret ?_
    refine SimE.thenR ?_
    exact SimE.fin (by kernel_rfl)
  · refine Sim.skip ?_
    refine SimE.thenN ?_
    refine Sim.seq ?_
    refine Sim.region0 ?_
    refine SimI.run 3 [(12, .one (li .u64 (IntKind.wrap .u64 a0.ID))), (11, .one (li .i64 a0.ID)), (10, .one (.ptr 1 0))] [] (by kernel_rfl) ?_
    refine SimI.bind (og := F65 n (IntKind.wrap .u64 a0.ID)) { dst := some 13, op := POp.call false [[]] 65 [Operand.tmp 12], guard := none, hints := [(12, Hint.imm)] } (fun r2 => [(13, .one (ls r2))]) (fun r2 => []) (by kernel_rfl) (fun r2 hr => pOp_eff (by kernel_rfl) (by kernel_rfl) (eff_call (ARGS := [.one (li .u64 (IntKind.wrap .u64 a0.ID))]) (by kernel_rfl) (args_clean (by kernel_rfl) args_nil) (F65_ok n (IntKind.wrap .u64 a0.ID) r2 hr) (by kernel_rfl))) (fun r2 => ?_)
    refine SimI.run 3 [(16, .one (li .u64 (IntKind.wrap .u64 a0.Mask))), (15, .one (li .u8 a0.Mask)), (14, .one (.ptr 1 1))] [] (by kernel_rfl) ?_
    refine SimI.bind (og := F65 n (IntKind.wrap .u64 a0.Mask)) { dst := some 17, op := POp.call false [[]] 65 [Operand.tmp 16], guard := none, hints := [(16, Hint.imm)] } (fun r3 => [(17, .one (ls r3))]) (fun r3 => []) (by kernel_rfl) (fun r3 hr => pOp_eff (by kernel_rfl) (by kernel_rfl) (eff_call (ARGS := [.one (li .u64 (IntKind.wrap .u64 a0.Mask))]) (by kernel_rfl) (args_clean (by kernel_rfl) args_nil) (F65_ok n (IntKind.wrap .u64 a0.Mask) r3 hr) (by kernel_rfl))) (fun r3 => ?_)
    refine SimI.guard (c := r2.size + r3.size ≤ 9223372036854775807) { dst := some 18, op := POp.prim (Prim.bin BinOp.add 9 false false) [Operand.tmp 13, Operand.tmp 17], guard := none, hints := [(13, Hint.imm), (17, Hint.imm)] } [(18, .one (ls (r2 ++ r3)))] [] (by kernel_rfl) (fun hc => pOp_eff (by kernel_rfl) (by kernel_rfl) (eff_prim (by kernel_rfl) (pr_addS _ _ _ r2 r3 hc))) ?_
    refine SimI.run 1 [(4, .one (ls (r2 ++ r3)))] [] (by kernel_rfl) ?_
    refine SimI.done (by kernel_rfl) ?_
    refine SimE.thenN ?_
    refine Sim.seq ?_
    refine Sim.seq ?_
    refine Sim.region0 ?_
    refine SimI.run 4 [(22, .one (lb ((bitsI .and .u8 a0.Mask 1) != 0))), (21, .one (li .u8 (bitsI .and .u8 a0.Mask 1))), (20, .one (li .u8 a0.Mask)), (19, .one (.ptr 1 1))] [] (by kernel_rfl) ?_
    refine SimI.done (by kernel_rfl) ?_
    refine SimE.thenN ?_
    refine Sim.cond ((bitsI .and .u8 a0.Mask 1) != 0) (by kernel_rfl) ?_ ?_
    · refine Sim.region0 ?_
      refine SimI.run 5 [(27, .one (li .u64 (IntKind.wrap .u64 a0.At.X))), (26, .one (li .i64 a0.At.X)), (25, .one (.ptr 1 2)), (24, .one (.ptr 1 2)), (23, .one (ls (r2 ++ r3)))] [] (by kernel_rfl) ?_
      refine SimI.bind (og := F65 n (IntKind.wrap .u64 a0.At.X)) { dst := some 28, op := POp.call false [[]] 65 [Operand.tmp 27], guard := none, hints := [(27, Hint.imm)] } (fun r4 => [(28, .one (ls r4))]) (fun r4 => []) (by kernel_rfl) (fun r4 hr => pOp_eff (by kernel_rfl) (by kernel_rfl) (eff_call (ARGS := [.one (li .u64 (IntKind.wrap .u64 a0.At.X))]) (by kernel_rfl) (args_clean (by kernel_rfl) args_nil) (F65_ok n (IntKind.wrap .u64 a0.At.X) r4 hr) (by kernel_rfl))) (fun r4 => ?_)
      refine SimI.run 4 [(32, .one (li .u64 (IntKind.wrap .u64 a0.At.Y))), (31, .one (li .i64 a0.At.Y)), (30, .one (.ptr 1 3)), (29, .one (.ptr 1 2))] [] (by kernel_rfl) ?_
      refine SimI.bind (og := F65 n (IntKind.wrap .u64 a0.At.Y)) { dst := some 33, op := POp.call false [[]] 65 [Operand.tmp 32], guard := none, hints := [(32, Hint.imm)] } (fun r5 => [(33, .one (ls r5))]) (fun r5 => []) (by kernel_rfl) (fun r5 hr => pOp_eff (by kernel_rfl) (by kernel_rfl) (eff_call (ARGS := [.one (li .u64 (IntKind.wrap .u64 a0.At.Y))]) (by kernel_rfl) (args_clean (by kernel_rfl) args_nil) (F65_ok n (IntKind.wrap .u64 a0.At.Y) r5 hr) (by kernel_rfl))) (fun r5 => ?_)
      refine SimI.guard (c := r4.size + r5.size ≤ 9223372036854775807) { dst := some 34, op := POp.prim (Prim.bin BinOp.add 9 false false) [Operand.tmp 28, Operand.tmp 33], guard := none, hints := [(28, Hint.imm), (33, Hint.imm)] } [(34, .one (ls (r4 ++ r5)))] [] (by kernel_rfl) (fun hc => pOp_eff (by kernel_rfl) (by kernel_rfl) (eff_prim (by kernel_rfl) (pr_addS _ _ _ r4 r5 hc))) ?_
      refine SimI.guard (c := (r2 ++ r3).size + (r4 ++ r5).size ≤ 9223372036854775807) { dst := some 35, op := POp.prim (Prim.bin BinOp.add 9 false false) [Operand.tmp 23, Operand.tmp 34], guard := none, hints := [(23, Hint.imm), (34, Hint.imm)] } [(35, .one (ls ((r2 ++ r3) ++ (r4 ++ r5))))] [] (by kernel_rfl) (fun hc => pOp_eff (by kernel_rfl) (by kernel_rfl) (eff_prim (by kernel_rfl) (pr_addS _ _ _ (r2 ++ r3) (r4 ++ r5) hc))) ?_
      refine SimI.run 1 [(4, .one (ls ((r2 ++ r3) ++ (r4 ++ r5))))] [] (by kernel_rfl) ?_
      refine SimI.done (by kernel_rfl) ?_
      refine SimE.thenN ?_
      refine Sim.pre (ts := [1, 4]) (os := [1]) (ow := []) [(1, .one (.ptr 1 0)), (4, .one (ls ((r2 ++ r3) ++ (r4 ++ r5))))] [(1, some (.cells (Delta.cells a0)))] (by kernel_rfl) (by kernel_rfl) (by kernel_rfl) ?_
      exact F63_j7_ok n a0 ((r2 ++ r3) ++ (r4 ++ r5))
    · refine Sim.skip ?_
      refine SimE.thenN ?_
      refine Sim.pre (ts := [1, 4]) (os := [1]) (ow := []) [(1, .one (.ptr 1 0)), (4, .one (ls (r2 ++ r3)))] [(1, some (.cells (Delta.cells a0)))] (by kernel_rfl) (by kernel_rfl) (by kernel_rfl) ?_
      exact F63_j7_ok n a0 (r2 ++ r3)


-- 21: vedette/thing.Bytes
def F21_e : (ByteArray × Int) → PV × List Ob := fun r => (.tup [.one (ls r.1), .one (li .i64 r.2)], [])
def F21 (n : Nat) (a0 : Thing) : Option (ByteArray × Int) :=
  (F24 n a0).bind fun (r1 : Bool) =>
  if !(r1) then
    some (ByteArray.empty, 11)
  else
    (F63 n (Delta.mk a0.ID 31 a0.At a0.F)).bind fun (r2 : (ByteArray × Int)) =>
    some (r2.1, r2.2)
theorem F21_ok (n : Nat) (a0 : Thing) : ∀ r, F21 n a0 = some r → D 21 [.agg (Thing.cells a0)] [] = some (F21_e r) := by
  refine fn_to (D := D) (n := n + 8) (nt := 17) (rs := pc21_r) (c := pc21_c13) (L := [(0, .agg (Thing.cells a0))]) (M := []) (k := 0) rfl rfl rfl rfl rfl rfl rfl ?_
  unfold F21
  refine Sim.seq ?_
  refine Sim.region0 ?_
  refine SimI.run 3 [(3, .one (li .i64 0)), (2, .one (ls ByteArray.empty)), (1, .one (.ptr 1 0))] [(1, some (.cells (Thing.cells a0)))] (by kernel_rfl) ?_
  refine SimI.done (by kernel_rfl) ?_
  refine SimE.thenN ?_
  refine Sim.seq ?_
  refine Sim.seq ?_
  refine Sim.region0 ?_
  refine SimI.run 1 [(4, .agg (Thing.cells a0))] [] (by kernel_rfl) ?_
  refine SimI.bind (og := F24 n a0) { dst := some 5, op := POp.call true [[]] 24 [Operand.tmp 4], guard := none, hints := [] } (fun r1 => [(5, .one (lb r1))]) (fun r1 => []) (by kernel_rfl) (fun r1 hr => pOp_eff (by kernel_rfl) (by kernel_rfl) (eff_call (ARGS := [.agg (Thing.cells a0)]) (by kernel_rfl) (args_clean (by kernel_rfl) args_nil) (F24_ok n a0 r1 hr) (by kernel_rfl))) (fun r1 => ?_)
  refine SimI.run 1 [(6, .one (lb (!(r1))))] [] (by kernel_rfl) ?_
  refine SimI.done (by kernel_rfl) ?_
  refine SimE.thenN ?_
  refine Sim.cond (!(r1)) (by kernel_rfl) ?_ ?_
  · refine Sim.seq ?_
    refine Sim.region0 ?_
    refine SimI.run 2 [(3, .one (li .i64 11)), (2, .one (ls ByteArray.empty))] [] (by kernel_rfl) ?_
    refine SimI.done (by kernel_rfl) ?_
    refine SimE.thenN ?_
    refine Sim.ret ?_
    refine SimE.thenR ?_
    exact SimE.fin (by kernel_rfl)
  · refine Sim.skip ?_
    refine SimE.thenN ?_
    refine Sim.seq ?_
    refine Sim.region0 ?_
    refine SimI.run 7 [(13, .agg [li .i64 a0.ID, li .u8 31, li .i64 a0.At.X, li .i64 a0.At.Y, li .i64 a0.F.a0.N, ls a0.F.a0.Text, li .i64 a0.F.a1.N, ls a0.F.a1.Text, li .i64 a0.F.a2.N, ls a0.F.a2.Text, li .i64 a0.F.a3.N, ls a0.F.a3.Text]), (12, .agg (A4_Field.cells a0.F)), (11, .one (.ptr 1 3)), (10, .agg [li .i64 a0.At.X, li .i64 a0.At.Y]), (9, .one (.ptr 1 1)), (8, .one (li .i64 a0.ID)), (7, .one (.ptr 1 0))] [] (by kernel_rfl) ?_
    refine SimI.bind (og := F63 n (Delta.mk a0.ID 31 a0.At a0.F)) { dst := some 14, op := POp.call true [[]] 63 [Operand.tmp 13], guard := none, hints := [] } (fun r2 => [(14, .tup [.one (ls r2.1), .one (li .i64 r2.2)])]) (fun r2 => []) (by kernel_rfl) (fun r2 hr => pOp_eff (by kernel_rfl) (by kernel_rfl) (eff_call (ARGS := [.agg [li .i64 a0.ID, li .u8 31, li .i64 a0.At.X, li .i64 a0.At.Y, li .i64 a0.F.a0.N, ls a0.F.a0.Text, li .i64 a0.F.a1.N, ls a0.F.a1.Text, li .i64 a0.F.a2.N, ls a0.F.a2.Text, li .i64 a0.F.a3.N, ls a0.F.a3.Text]]) (by kernel_rfl) (args_clean (by kernel_rfl) args_nil) (F63_ok n (Delta.mk a0.ID 31 a0.At a0.F) r2 hr) (by kernel_rfl))) (fun r2 => ?_)
    refine SimI.run 4 [(3, .one (li .i64 r2.2)), (2, .one (ls r2.1)), (16, .one (li .i64 r2.2)), (15, .one (ls r2.1))] [] (by kernel_rfl) ?_
    refine SimI.done (by kernel_rfl) ?_
    refine SimE.thenN ?_
    refine Sim.ret ?_
    exact SimE.fin (by kernel_rfl)


-- 22: vedette/thing.All
def F22_e : (ByteArray × Int) → PV × List Ob := fun r => (.tup [.one (ls r.1), .one (li .i64 r.2)], [])
def F22_l9 (n : Nat) (a0 : (List Thing)) : Nat → Int → (List Int) → Option (ByteArray × Int)
  | 0, _, _ => none
  | m + 1, i7, l8 =>
    if decide (i7 < ((a0).length : Int)) then
      (ix a0 i7).bind fun (x10 : Thing) =>
      (F21 n x10).bind fun (r11 : (ByteArray × Int)) =>
      if r11.2 != 0 then
        some (ByteArray.empty, 11)
      else
        if decide ((0 : Int) < i7) then
          (ix a0 (IntKind.wrap .i64 (i7 - 1))).bind fun (x12 : Thing) =>
          if decide (x10.ID ≤ x12.ID) then
            some (ByteArray.empty, 11)
          else
            (bldAdd l8 r11.1).bind fun (l13 : (List Int)) =>
            (F22_l9 n a0 m) (IntKind.wrap .i64 (i7 + 1)) l13
        else
          (bldAdd l8 r11.1).bind fun (l14 : (List Int)) =>
          (F22_l9 n a0 m) (IntKind.wrap .i64 (i7 + 1)) l14
    else
      (bldStr l8).bind fun (s15 : ByteArray) =>
      some (s15, 0)
theorem F22_l9_ok (n : Nat) (a0 : (List Thing)) : ∀ (m : Nat) (i7 : Int) (l8 : (List Int)), SimL Try.prog D (n + 8) m pc22_c33 [(0, .one (vw Thing.cod a0)), (4, .one (.ptr 4 0)), (17, .one (vw Thing.cod a0)), (18, .one (li .i64 ((a0).length : Int))), (19, .one (li .i64 i7))] [(4, some (.tcells 96 [.ptr 4 0, .osl 400032 0 0 (l8).length])), (400032, some (.arr 5 (codI .u8).sz 0 (l8).length (getOf (codI .u8) l8)))] (F22_l9 n a0 m i7 l8) (QB 0 (QT Try.prog D (n + 8) pc22_c39 (QF false pc22_r 0 F22_e))) := by
  intro m_l9
  induction m_l9 with
  | zero => intro i7 l8; exact SimL.zero'  rfl
  | succ m_l9 ih_l9 =>
    intro i7 l8
    refine SimL.succ ?_
    unfold F22_l9
    refine Sim.seq ?_
    refine Sim.region [(0, .one (vw Thing.cod a0)), (4, .one (.ptr 4 0)), (17, .one (vw Thing.cod a0)), (18, .one (li .i64 ((a0).length : Int))), (19, .one (li .i64 i7))] [(4, some (.tcells 96 [.ptr 4 0, .osl 400032 0 0 (l8).length])), (400032, some (.arr 5 (codI .u8).sz 0 (l8).length (getOf (codI .u8) l8)))] (by kernel_rfl) ?_
    refine SimI.run 1 [(20, .one (lb (decide (i7 < ((a0).length : Int)))))] [] (by kernel_rfl) ?_
    refine SimI.done (by kernel_rfl) ?_
    refine SimE.thenN ?_
    refine Sim.seq ?_
    refine Sim.cond (decide (i7 < ((a0).length : Int))) (by kernel_rfl) ?_ ?_
    · refine Sim.skip ?_
      refine SimE.thenN ?_
      refine Sim.seq ?_
      refine Sim.block ?_
      refine Sim.seq ?_
      refine Sim.region0 ?_
      refine SimI.run 1 [(21, .one (li .i64 i7))] [] (by kernel_rfl) ?_
      refine SimI.bind (og := ix a0 i7) { dst := some 22, op := POp.iaddrS 11 (Operand.tmp 17) (Operand.tmp 19), guard := none, hints := [] } (fun x10 => [(22, .one (.eptr (Thing.cod.enc x10) 0))]) (fun x10 => []) (by kernel_rfl) (fun x10 hr => pOp_eff (by kernel_rfl) (by kernel_rfl) (eff_idx (c := Thing.cod) (l := a0) (k := .i64) (n := i7) (by kernel_rfl) (by kernel_rfl) (by kernel_rfl) hr)) (fun x10 => ?_)
      refine SimI.run 4 [(5, .one (li .i64 i7)), (6, .one (.ptr 6 0)), (23, .agg (Thing.cells x10))] [(6, some (.cells (Thing.cells x10))), (6, some (.cells [li .i64 0, li .i64 0, li .i64 0, li .i64 0, ls ByteArray.empty, li .i64 0, ls ByteArray.empty, li .i64 0, ls ByteArray.empty, li .i64 0, ls ByteArray.empty]))] (by kernel_rfl) ?_
      refine SimI.done (by kernel_rfl) ?_
      refine SimE.thenN ?_
      refine Sim.seq ?_
      refine Sim.region0 ?_
      refine SimI.run 1 [(25, .agg (Thing.cells x10))] [] (by kernel_rfl) ?_
      refine SimI.bind (og := F21 n x10) { dst := some 26, op := POp.call true [[]] 21 [Operand.tmp 25], guard := none, hints := [] } (fun r11 => [(26, .tup [.one (ls r11.1), .one (li .i64 r11.2)])]) (fun r11 => []) (by kernel_rfl) (fun r11 hr => pOp_eff (by kernel_rfl) (by kernel_rfl) (eff_call (ARGS := [.agg (Thing.cells x10)]) (by kernel_rfl) (args_clean (by kernel_rfl) args_nil) (F21_ok n x10 r11 hr) (by kernel_rfl))) (fun r11 => ?_)
      refine SimI.run 5 [(8, .one (li .i64 r11.2)), (7, .one (ls r11.1)), (28, .one (li .i64 r11.2)), (27, .one (ls r11.1)), (24, .tup [.one (ls r11.1), .one (li .i64 r11.2)])] [] (by kernel_rfl) ?_
      refine SimI.done (by kernel_rfl) ?_
      refine SimE.thenN ?_
      refine Sim.seq ?_
      refine Sim.seq ?_
      refine Sim.region0 ?_
      refine SimI.run 3 [(31, .one (lb (r11.2 != 0))), (30, .one (lb (r11.2 != 0))), (29, .one (li .i64 r11.2))] [] (by kernel_rfl) ?_
      refine SimI.split 31 (r11.2 != 0) (by kernel_rfl) ?_ ?_
      · refine SimI.run 14 [(45, .one (lb true)), (44, .tup []), (43, .tup []), (42, .tup []), (41, .tup []), (40, .tup []), (39, .tup []), (38, .tup []), (37, .tup []), (36, .tup []), (35, .tup []), (34, .tup []), (33, .tup []), (32, .tup [])] [] (by kernel_rfl) ?_
        refine SimI.done (by kernel_rfl) ?_
        refine SimE.thenN ?_
        refine Sim.condT (by kernel_rfl) ?_
        refine Sim.seq ?_
        refine Sim.region0 ?_
        refine SimI.run 2 [(3, .one (li .i64 11)), (2, .one (ls ByteArray.empty))] [] (by kernel_rfl) ?_
        refine SimI.done (by kernel_rfl) ?_
        refine SimE.thenN ?_
        refine Sim.ret ?_
        refine SimE.thenR ?_
        refine SimE.blockR ?_
        refine SimE.thenR ?_
        refine SimE.loopR ?_
        refine SimE.blockR ?_
        refine SimE.thenR ?_
        exact SimE.fin (by kernel_rfl)
      · refine SimI.run 3 [(34, .one (lb (decide ((0 : Int) < i7)))), (33, .one (lb (decide ((0 : Int) < i7)))), (32, .one (li .i64 i7))] [] (by kernel_rfl) ?_
        refine SimI.split 34 (decide ((0 : Int) < i7)) (by kernel_rfl) ?_ ?_
        · refine SimI.run 5 [(39, .one (li .i64 (IntKind.wrap .i64 (i7 - 1)))), (38, .one (li .i64 i7)), (37, .one (vw Thing.cod a0)), (36, .one (li .i64 x10.ID)), (35, .one (.ptr 6 0))] [] (by kernel_rfl) ?_
          refine SimI.bind (og := ix a0 (IntKind.wrap .i64 (i7 - 1))) { dst := some 40, op := POp.iaddrS 11 (Operand.tmp 37) (Operand.tmp 39), guard := some (34, true), hints := [(37, Hint.imm), (39, Hint.imm)] } (fun x12 => [(40, .one (.eptr (Thing.cod.enc x12) 0))]) (fun x12 => []) (by kernel_rfl) (fun x12 hr => pOp_eff (by kernel_rfl) (by kernel_rfl) (eff_idx (c := Thing.cod) (l := a0) (k := .i64) (n := IntKind.wrap .i64 (i7 - 1)) (by kernel_rfl) (by kernel_rfl) (by kernel_rfl) hr)) (fun x12 => ?_)
          refine SimI.run 5 [(45, .one (lb (decide (x10.ID ≤ x12.ID)))), (44, .one (lb (decide (x10.ID ≤ x12.ID)))), (43, .one (lb (decide (x10.ID ≤ x12.ID)))), (42, .one (li .i64 x12.ID)), (41, .one (.eptr (Thing.cod.enc x12) 0))] [] (by kernel_rfl) ?_
          refine SimI.done (by kernel_rfl) ?_
          refine SimE.thenN ?_
          refine Sim.cond (decide (x10.ID ≤ x12.ID)) (by kernel_rfl) ?_ ?_
          · refine Sim.seq ?_
            refine Sim.region0 ?_
            refine SimI.run 2 [(3, .one (li .i64 11)), (2, .one (ls ByteArray.empty))] [] (by kernel_rfl) ?_
            refine SimI.done (by kernel_rfl) ?_
            refine SimE.thenN ?_
            refine Sim.ret ?_
            refine SimE.thenR ?_
            refine SimE.blockR ?_
            refine SimE.thenR ?_
            refine SimE.loopR ?_
            refine SimE.blockR ?_
            refine SimE.thenR ?_
            exact SimE.fin (by kernel_rfl)
          · refine Sim.skip ?_
            refine SimE.thenN ?_
            refine Sim.region0 ?_
            refine SimI.run 1 [(46, .one (ls r11.1))] [] (by kernel_rfl) ?_
            refine SimI.bind (og := bldAdd l8 r11.1) { dst := some 47, op := POp.gcall false false [4, 300000, 300001, 300002, 300003, 300004, 300005, 300006, 300007, 400032] [[(1, 1)], []] 64 [Operand.tmp 4, Operand.tmp 46], guard := none, hints := [] } (fun l13 => [(47, .tup [.one (li .i64 (r11.1.size : Int)), .one (.val (.nilIface))])]) (fun l13 => [(4, some (.tcells 96 [.ptr 4 0, .osl 400032 (0 + 1) 0 (l13).length])), (400032, some (.arr 5 (codI .u8).sz (0 + 1) (l13).length (getOf (codI .u8) l13)))]) (by kernel_rfl) (fun l13 hr => pOp_eff (by kernel_rfl) (by kernel_rfl) (eff_gcall (ks := [4, 400032]) (rks := []) (new := []) (ARGS := [.one (.ptr 4 0), .one (ls r11.1)]) (args1 := [.one (.ptr 4 0), .one (ls r11.1)]) (args2 := [.one (.ptr 1000000 0), .one (ls r11.1)]) (os := [.tcells 96 [.ptr 1000000 0, .osl 1000001 0 0 (l8).length], .arr 5 (codI .u8).sz 0 (l8).length (getOf (codI .u8) l8)]) (os' := [.tcells 96 [.ptr 1000000 0, .osl 1000001 1 0 (l13).length], .arr 5 (codI .u8).sz 1 (l13).length (getOf (codI .u8) l13)]) (os1 := [.tcells 96 [.ptr 1000000 0, .osl 1000001 1 0 (l13).length], .arr 5 (codI .u8).sz 1 (l13).length (getOf (codI .u8) l13)]) (res := .tup [.one (li .i64 (r11.1.size : Int)), .one (.val (.nilIface))]) (res1 := .tup [.one (li .i64 (r11.1.size : Int)), .one (.val (.nilIface))]) (r := .tup [.one (li .i64 (r11.1.size : Int)), .one (.val (.nilIface))]) (N := [(4, some (.tcells 96 [.ptr 4 0, .osl 400032 (0 + 1) 0 (l13).length])), (400032, some (.arr 5 (codI .u8).sz (0 + 1) (l13).length (getOf (codI .u8) l13)))]) (by kernel_rfl) (readA_ow (readA_keep (by kernel_rfl) (readA_keep (by kernel_rfl) (readA_nil)))) (by kernel_rfl) (by kernel_rfl) (by kernel_rfl) (by kernel_rfl) (D_add (a := .ptr 1000000 0) (by kernel_rfl) (l := l8) (s := r11.1) l13 hr) (by kernel_rfl) (by kernel_rfl) (by kernel_rfl) rfl (by kernel_rfl) (by kernel_rfl) (by kernel_rfl))) (fun l13 => ?_)
            refine SimI.done (by kernel_rfl) ?_
            refine SimE.blockN ?_
            refine SimE.thenN ?_
            refine Sim.region0 ?_
            refine SimI.run 2 [(19, .one (li .i64 (IntKind.wrap .i64 (i7 + 1)))), (48, .one (li .i64 (IntKind.wrap .i64 (i7 + 1))))] [] (by kernel_rfl) ?_
            refine SimI.done (by kernel_rfl) ?_
            refine SimE.loopN ?_
            refine SimL.pre (ts := [0, 4, 17, 18, 19]) (os := [4, 6, 400032]) (ow := []) [(0, .one (vw Thing.cod a0)), (4, .one (.ptr 4 0)), (17, .one (vw Thing.cod a0)), (18, .one (li .i64 ((a0).length : Int))), (19, .one (li .i64 (IntKind.wrap .i64 (i7 + 1))))] [(4, some (.tcells 96 [.ptr 4 0, .osl 400032 0 0 (l13).length])), (400032, some (.arr 5 (codI .u8).sz 0 (l13).length (getOf (codI .u8) l13)))] (by kernel_rfl) (by kernel_rfl) (by kernel_rfl) ?_
            exact ih_l9 (IntKind.wrap .i64 (i7 + 1)) l13
        · refine SimI.run 11 [(45, .one (lb false)), (44, .one (lb false)), (43, .tup []), (42, .tup []), (41, .tup []), (40, .tup []), (39, .tup []), (38, .tup []), (37, .tup []), (36, .tup []), (35, .tup [])] [] (by kernel_rfl) ?_
          refine SimI.done (by kernel_rfl) ?_
          refine SimE.thenN ?_
          refine Sim.condF (by kernel_rfl) ?_
          refine Sim.skip ?_
          refine SimE.thenN ?_
          refine Sim.region0 ?_
          refine SimI.run 1 [(46, .one (ls r11.1))] [] (by kernel_rfl) ?_
          refine SimI.bind (og := bldAdd l8 r11.1) { dst := some 47, op := POp.gcall false false [4, 300000, 300001, 300002, 300003, 300004, 300005, 300006, 300007, 400032] [[(1, 1)], []] 64 [Operand.tmp 4, Operand.tmp 46], guard := none, hints := [] } (fun l14 => [(47, .tup [.one (li .i64 (r11.1.size : Int)), .one (.val (.nilIface))])]) (fun l14 => [(4, some (.tcells 96 [.ptr 4 0, .osl 400032 (0 + 1) 0 (l14).length])), (400032, some (.arr 5 (codI .u8).sz (0 + 1) (l14).length (getOf (codI .u8) l14)))]) (by kernel_rfl) (fun l14 hr => pOp_eff (by kernel_rfl) (by kernel_rfl) (eff_gcall (ks := [4, 400032]) (rks := []) (new := []) (ARGS := [.one (.ptr 4 0), .one (ls r11.1)]) (args1 := [.one (.ptr 4 0), .one (ls r11.1)]) (args2 := [.one (.ptr 1000000 0), .one (ls r11.1)]) (os := [.tcells 96 [.ptr 1000000 0, .osl 1000001 0 0 (l8).length], .arr 5 (codI .u8).sz 0 (l8).length (getOf (codI .u8) l8)]) (os' := [.tcells 96 [.ptr 1000000 0, .osl 1000001 1 0 (l14).length], .arr 5 (codI .u8).sz 1 (l14).length (getOf (codI .u8) l14)]) (os1 := [.tcells 96 [.ptr 1000000 0, .osl 1000001 1 0 (l14).length], .arr 5 (codI .u8).sz 1 (l14).length (getOf (codI .u8) l14)]) (res := .tup [.one (li .i64 (r11.1.size : Int)), .one (.val (.nilIface))]) (res1 := .tup [.one (li .i64 (r11.1.size : Int)), .one (.val (.nilIface))]) (r := .tup [.one (li .i64 (r11.1.size : Int)), .one (.val (.nilIface))]) (N := [(4, some (.tcells 96 [.ptr 4 0, .osl 400032 (0 + 1) 0 (l14).length])), (400032, some (.arr 5 (codI .u8).sz (0 + 1) (l14).length (getOf (codI .u8) l14)))]) (by kernel_rfl) (readA_ow (readA_keep (by kernel_rfl) (readA_keep (by kernel_rfl) (readA_nil)))) (by kernel_rfl) (by kernel_rfl) (by kernel_rfl) (by kernel_rfl) (D_add (a := .ptr 1000000 0) (by kernel_rfl) (l := l8) (s := r11.1) l14 hr) (by kernel_rfl) (by kernel_rfl) (by kernel_rfl) rfl (by kernel_rfl) (by kernel_rfl) (by kernel_rfl))) (fun l14 => ?_)
          refine SimI.done (by kernel_rfl) ?_
          refine SimE.blockN ?_
          refine SimE.thenN ?_
          refine Sim.region0 ?_
          refine SimI.run 2 [(19, .one (li .i64 (IntKind.wrap .i64 (i7 + 1)))), (48, .one (li .i64 (IntKind.wrap .i64 (i7 + 1))))] [] (by kernel_rfl) ?_
          refine SimI.done (by kernel_rfl) ?_
          refine SimE.loopN ?_
          refine SimL.pre (ts := [0, 4, 17, 18, 19]) (os := [4, 6, 400032]) (ow := []) [(0, .one (vw Thing.cod a0)), (4, .one (.ptr 4 0)), (17, .one (vw Thing.cod a0)), (18, .one (li .i64 ((a0).length : Int))), (19, .one (li .i64 (IntKind.wrap .i64 (i7 + 1))))] [(4, some (.tcells 96 [.ptr 4 0, .osl 400032 0 0 (l14).length])), (400032, some (.arr 5 (codI .u8).sz 0 (l14).length (getOf (codI .u8) l14)))] (by kernel_rfl) (by kernel_rfl) (by kernel_rfl) ?_
          exact ih_l9 (IntKind.wrap .i64 (i7 + 1)) l14
    · refine Sim.exit ?_
      refine SimE.thenX ?_
      refine SimE.loopX ?_
      refine SimE.blockX ?_
      refine SimE.thenN ?_
      refine Sim.seq ?_
      refine Sim.region0 ?_
      refine SimI.bind (og := bldStr l8) { dst := some 49, op := POp.gcall false false [4, 300000, 300001, 300002, 300003, 300004, 300005, 300006, 300007, 400032] [[(1, 1)]] 66 [Operand.tmp 4], guard := none, hints := [] } (fun s15 => [(49, .one (ls s15))]) (fun s15 => [(4, some (.tcells 96 [.ptr 4 0, .osl 400032 (0 + 0) 0 (l8).length])), (400032, some (.arr 5 (codI .u8).sz (0 + 1) (([] : List Int)).length (getOf (codI .u8) ([] : List Int))))]) (by kernel_rfl) (fun s15 hr => pOp_eff (by kernel_rfl) (by kernel_rfl) (eff_gcall (ks := [4, 400032]) (rks := []) (new := []) (ARGS := [.one (.ptr 4 0)]) (args1 := [.one (.ptr 4 0)]) (args2 := [.one (.ptr 1000000 0)]) (os := [.tcells 96 [.ptr 1000000 0, .osl 1000001 0 0 (l8).length], .arr 5 (codI .u8).sz 0 (l8).length (getOf (codI .u8) l8)]) (os' := [.tcells 96 [.ptr 1000000 0, .osl 1000001 0 0 (l8).length], .arr 5 (codI .u8).sz 1 (([] : List Int)).length (getOf (codI .u8) ([] : List Int))]) (os1 := [.tcells 96 [.ptr 1000000 0, .osl 1000001 0 0 (l8).length], .arr 5 (codI .u8).sz 1 (([] : List Int)).length (getOf (codI .u8) ([] : List Int))]) (res := .one (ls s15)) (res1 := .one (ls s15)) (r := .one (ls s15)) (N := [(4, some (.tcells 96 [.ptr 4 0, .osl 400032 (0 + 0) 0 (l8).length])), (400032, some (.arr 5 (codI .u8).sz (0 + 1) (([] : List Int)).length (getOf (codI .u8) ([] : List Int))))]) (by kernel_rfl) (readA_ow (readA_keep (by kernel_rfl) (readA_nil))) (by kernel_rfl) (by kernel_rfl) (by kernel_rfl) (by kernel_rfl) (D_str (a := .ptr 1000000 0) (by kernel_rfl) (l := l8) s15 hr) (by kernel_rfl) (by kernel_rfl) (by kernel_rfl) rfl (by kernel_rfl) (by kernel_rfl) (by kernel_rfl))) (fun s15 => ?_)
      refine SimI.run 2 [(3, .one (li .i64 0)), (2, .one (ls s15))] [] (by kernel_rfl) ?_
      refine SimI.done (by kernel_rfl) ?_
      refine SimE.thenN ?_
      refine Sim.ret ?_
      exact SimE.fin (by kernel_rfl)

def F22 (n : Nat) (a0 : (List Thing)) : Option (ByteArray × Int) :=
  if decide ((200 : Int) < ((a0).length : Int)) then
    some (ByteArray.empty, 13)
  else
    (F65 n (IntKind.wrap .u64 ((a0).length : Int))).bind fun (r1 : ByteArray) =>
    (bldAdd ([] : List Int) r1).bind fun (l2 : (List Int)) =>
    F22_l9 n a0 (n + 8) 0 l2
theorem F22_ok (n : Nat) (a0 : (List Thing)) : ∀ r, F22 n a0 = some r → D 22 [.one (vw Thing.cod a0)] [] = some (F22_e r) := by
  refine fn_to (D := D) (n := n + 8) (nt := 50) (rs := pc22_r) (c := pc22_c44) (L := [(0, .one (vw Thing.cod a0))]) (M := []) (k := 0) rfl rfl rfl rfl rfl rfl rfl ?_
  unfold F22
  refine Sim.seq ?_
  refine Sim.region0 ?_
  refine SimI.run 2 [(3, .one (li .i64 0)), (2, .one (ls ByteArray.empty))] [] (by kernel_rfl) ?_
  refine SimI.done (by kernel_rfl) ?_
  refine SimE.thenN ?_
  refine Sim.seq ?_
  refine Sim.seq ?_
  refine Sim.region0 ?_
  refine SimI.run 3 [(11, .one (lb (decide ((200 : Int) < ((a0).length : Int))))), (10, .one (li .i64 ((a0).length : Int))), (9, .one (vw Thing.cod a0))] [] (by kernel_rfl) ?_
  refine SimI.done (by kernel_rfl) ?_
  refine SimE.thenN ?_
  refine Sim.cond (decide ((200 : Int) < ((a0).length : Int))) (by kernel_rfl) ?_ ?_
  · refine Sim.seq ?_
    refine Sim.region0 ?_
    refine SimI.run 2 [(3, .one (li .i64 13)), (2, .one (ls ByteArray.empty))] [] (by kernel_rfl) ?_
    refine SimI.done (by kernel_rfl) ?_
    refine SimE.thenN ?_
    refine Sim.ret ?_
    refine SimE.thenR ?_
    exact SimE.fin (by kernel_rfl)
  · refine Sim.skip ?_
    refine SimE.thenN ?_
    refine Sim.seq ?_
    refine Sim.region0 ?_
    refine SimI.run 1 [(4, .one (.ptr 4 0))] [(4, some (.tcells 96 [.val (.pointer none), .osl 400032 0 0 (([] : List Int)).length])), (400032, some (.arr 5 (codI .u8).sz 0 (([] : List Int)).length (getOf (codI .u8) ([] : List Int))))] (by kernel_rfl) ?_
    refine SimI.done (by kernel_rfl) ?_
    refine SimE.thenN ?_
    refine Sim.seq ?_
    refine Sim.region0 ?_
    refine SimI.run 3 [(14, .one (li .u64 (IntKind.wrap .u64 ((a0).length : Int)))), (13, .one (li .i64 ((a0).length : Int))), (12, .one (vw Thing.cod a0))] [] (by kernel_rfl) ?_
    refine SimI.bind (og := F65 n (IntKind.wrap .u64 ((a0).length : Int))) { dst := some 15, op := POp.call true [[]] 65 [Operand.tmp 14], guard := none, hints := [] } (fun r1 => [(15, .one (ls r1))]) (fun r1 => []) (by kernel_rfl) (fun r1 hr => pOp_eff (by kernel_rfl) (by kernel_rfl) (eff_call (ARGS := [.one (li .u64 (IntKind.wrap .u64 ((a0).length : Int)))]) (by kernel_rfl) (args_clean (by kernel_rfl) args_nil) (F65_ok n (IntKind.wrap .u64 ((a0).length : Int)) r1 hr) (by kernel_rfl))) (fun r1 => ?_)
    refine SimI.bind (og := bldAdd ([] : List Int) r1) { dst := some 16, op := POp.gcall false false [4, 300000, 300001, 300002, 300003, 300004, 300005, 300006, 300007, 400032] [[(1, 1)], []] 64 [Operand.tmp 4, Operand.tmp 15], guard := none, hints := [] } (fun l2 => [(16, .tup [.one (li .i64 (r1.size : Int)), .one (.val (.nilIface))])]) (fun l2 => [(4, some (.tcells 96 [.ptr 4 0, .osl 400032 (0 + 1) 0 (l2).length])), (400032, some (.arr 5 (codI .u8).sz (0 + 1) (l2).length (getOf (codI .u8) l2)))]) (by kernel_rfl) (fun l2 hr => pOp_eff (by kernel_rfl) (by kernel_rfl) (eff_gcall (ks := [4, 400032]) (rks := []) (new := []) (ARGS := [.one (.ptr 4 0), .one (ls r1)]) (args1 := [.one (.ptr 4 0), .one (ls r1)]) (args2 := [.one (.ptr 1000000 0), .one (ls r1)]) (os := [.tcells 96 [.val (.pointer none), .osl 1000001 0 0 (([] : List Int)).length], .arr 5 (codI .u8).sz 0 (([] : List Int)).length (getOf (codI .u8) ([] : List Int))]) (os' := [.tcells 96 [.ptr 1000000 0, .osl 1000001 1 0 (l2).length], .arr 5 (codI .u8).sz 1 (l2).length (getOf (codI .u8) l2)]) (os1 := [.tcells 96 [.ptr 1000000 0, .osl 1000001 1 0 (l2).length], .arr 5 (codI .u8).sz 1 (l2).length (getOf (codI .u8) l2)]) (res := .tup [.one (li .i64 (r1.size : Int)), .one (.val (.nilIface))]) (res1 := .tup [.one (li .i64 (r1.size : Int)), .one (.val (.nilIface))]) (r := .tup [.one (li .i64 (r1.size : Int)), .one (.val (.nilIface))]) (N := [(4, some (.tcells 96 [.ptr 4 0, .osl 400032 (0 + 1) 0 (l2).length])), (400032, some (.arr 5 (codI .u8).sz (0 + 1) (l2).length (getOf (codI .u8) l2)))]) (by kernel_rfl) (readA_ow (readA_keep (by kernel_rfl) (readA_keep (by kernel_rfl) (readA_nil)))) (by kernel_rfl) (by kernel_rfl) (by kernel_rfl) (by kernel_rfl) (D_add (a := .val (.pointer none)) (by kernel_rfl) (l := ([] : List Int)) (s := r1) l2 hr) (by kernel_rfl) (by kernel_rfl) (by kernel_rfl) rfl (by kernel_rfl) (by kernel_rfl) (by kernel_rfl))) (fun l2 => ?_)
    refine SimI.done (by kernel_rfl) ?_
    refine SimE.thenN ?_
    refine Sim.seq ?_
    refine Sim.seq ?_
    refine Sim.region0 ?_
    refine SimI.run 3 [(19, .one (li .i64 0)), (18, .one (li .i64 ((a0).length : Int))), (17, .one (vw Thing.cod a0))] [] (by kernel_rfl) ?_
    refine SimI.done (by kernel_rfl) ?_
    refine SimE.thenN ?_
    refine Sim.block ?_
    refine Sim.loop ?_
    refine SimL.pre (ts := [0, 4, 17, 18, 19]) (os := [4, 6, 400032]) (ow := []) [(0, .one (vw Thing.cod a0)), (4, .one (.ptr 4 0)), (17, .one (vw Thing.cod a0)), (18, .one (li .i64 ((a0).length : Int))), (19, .one (li .i64 0))] [(4, some (.tcells 96 [.ptr 4 0, .osl 400032 0 0 (l2).length])), (400032, some (.arr 5 (codI .u8).sz 0 (l2).length (getOf (codI .u8) l2)))] (by kernel_rfl) (by kernel_rfl) (by kernel_rfl) ?_
    exact F22_l9_ok n a0 (n + 8) 0 l2


-- 25: vedette/thing.Same
def F25_e : Bool → PV × List Ob := fun r => (.one (lb r), [])
def F25 (n : Nat) (a0 : Thing) (a1 : Thing) : Option Bool :=
  some (Thing.eqb a0 a1)
theorem F25_ok (n : Nat) (a0 : Thing) (a1 : Thing) : ∀ r, F25 n a0 a1 = some r → D 25 [.agg (Thing.cells a0), .agg (Thing.cells a1)] [] = some (F25_e r) := by
  refine fn_to (D := D) (n := n + 8) (nt := 8) (rs := pc25_r) (c := pc25_c5) (L := [(0, .agg (Thing.cells a0)), (1, .agg (Thing.cells a1))]) (M := []) (k := 0) rfl rfl rfl rfl rfl rfl rfl ?_
  unfold F25
  refine Sim.seq ?_
  refine Sim.region0 ?_
  refine SimI.run 3 [(4, .one (lb false)), (3, .one (.ptr 3 0)), (2, .one (.ptr 2 0))] [(3, some (.cells (Thing.cells a1))), (2, some (.cells (Thing.cells a0)))] (by kernel_rfl) ?_
  refine SimI.done (by kernel_rfl) ?_
  refine SimE.thenN ?_
  refine Sim.seq ?_
  refine Sim.region0 ?_
  refine SimI.run 2 [(6, .agg (Thing.cells a1)), (5, .agg (Thing.cells a0))] [] (by kernel_rfl) ?_
  refine SimI.step { dst := some 7, op := POp.prim (Prim.bin BinOp.eql 28 false false) [Operand.tmp 5, Operand.tmp 6], guard := none, hints := [] } [(7, .one (lb (Thing.eqb a0 a1)))] [] (by kernel_rfl) (pOp_eff (by kernel_rfl) (by kernel_rfl) (eff_prim (by kernel_rfl) (Thing_eql a0 a1 _ _))) ?_
  refine SimI.run 1 [(4, .one (lb (Thing.eqb a0 a1)))] [] (by kernel_rfl) ?_
  refine SimI.done (by kernel_rfl) ?_
  refine SimE.thenN ?_
  refine Sim.ret ?_
  exact SimE.fin (by kernel_rfl)


-- 26: vedette/thing.Server
def F26_e : Int → PV × List Ob := fun r => (.one (li .i64 r), [])
def F26 (n : Nat) (a0 : Int) : Option Int :=
  some (Int.tmod (imax a0 0) 4)
theorem F26_ok (n : Nat) (a0 : Int) : ∀ r, F26 n a0 = some r → D 26 [.one (li .i64 a0)] [] = some (F26_e r) := by
  refine fn_to (D := D) (n := n + 8) (nt := 6) (rs := pc26_r) (c := pc26_c5) (L := [(0, .one (li .i64 a0))]) (M := []) (k := 0) rfl rfl rfl rfl rfl rfl rfl ?_
  unfold F26
  refine Sim.seq ?_
  refine Sim.region0 ?_
  refine SimI.run 1 [(2, .one (li .i64 0))] [] (by kernel_rfl) ?_
  refine SimI.done (by kernel_rfl) ?_
  refine SimE.thenN ?_
  refine Sim.seq ?_
  refine Sim.region0 ?_
  refine SimI.run 4 [(2, .one (li .i64 (Int.tmod (imax a0 0) 4))), (5, .one (li .i64 (Int.tmod (imax a0 0) 4))), (4, .one (li .i64 (imax a0 0))), (3, .one (li .i64 a0))] [] (by kernel_rfl) ?_
  refine SimI.done (by kernel_rfl) ?_
  refine SimE.thenN ?_
  refine Sim.ret ?_
  exact SimE.fin (by kernel_rfl)


-- 28: vedette/thing.Number
def F28_e : Int → PV × List Ob := fun r => (.one (li .i64 r), [])
def F28 (n : Nat) (a0 : Int) (a1 : Int) : Option Int :=
  some (IntKind.wrap .i64 (IntKind.wrap .i64 (4 * imin (imax a1 0) 200000) + imin (imax a0 0) 3))
theorem F28_ok (n : Nat) (a0 : Int) (a1 : Int) : ∀ r, F28 n a0 a1 = some r → D 28 [.one (li .i64 a0), .one (li .i64 a1)] [] = some (F28_e r) := by
  refine fn_to (D := D) (n := n + 8) (nt := 13) (rs := pc28_r) (c := pc28_c5) (L := [(0, .one (li .i64 a0)), (1, .one (li .i64 a1))]) (M := []) (k := 0) rfl rfl rfl rfl rfl rfl rfl ?_
  unfold F28
  refine Sim.seq ?_
  refine Sim.region0 ?_
  refine SimI.run 1 [(4, .one (li .i64 0))] [] (by kernel_rfl) ?_
  refine SimI.done (by kernel_rfl) ?_
  refine SimE.thenN ?_
  refine Sim.seq ?_
  refine Sim.region0 ?_
  refine SimI.run 9 [(4, .one (li .i64 (IntKind.wrap .i64 (IntKind.wrap .i64 (4 * imin (imax a1 0) 200000) + imin (imax a0 0) 3)))), (12, .one (li .i64 (IntKind.wrap .i64 (IntKind.wrap .i64 (4 * imin (imax a1 0) 200000) + imin (imax a0 0) 3)))), (11, .one (li .i64 (imin (imax a0 0) 3))), (10, .one (li .i64 (imax a0 0))), (9, .one (li .i64 a0)), (8, .one (li .i64 (IntKind.wrap .i64 (4 * imin (imax a1 0) 200000)))), (7, .one (li .i64 (imin (imax a1 0) 200000))), (6, .one (li .i64 (imax a1 0))), (5, .one (li .i64 a1))] [] (by kernel_rfl) ?_
  refine SimI.done (by kernel_rfl) ?_
  refine SimE.thenN ?_
  refine Sim.ret ?_
  exact SimE.fin (by kernel_rfl)


-- 15: vedette/vedettelaw7.known
theorem F15_ok (n : Nat) : ∀ r, (some true : Option Bool) = some r → D 15 [] [] = some (.one (lb r), []) := by
  rintro _ ⟨⟩
  exact all_of (N := 60) (by kernel_rfl)


-- 57: vedette/vedettelaw7.fewField
def F57_e : Bool → PV × List Ob := fun r => (.one (lb r), [])
def F57 (n : Nat) (a0 : Field) : Option Bool :=
  some (decide ((a0.Text.size : Int) ≤ 40))
theorem F57_ok (n : Nat) (a0 : Field) : ∀ r, F57 n a0 = some r → D 57 [.agg [li .i64 a0.N, ls a0.Text]] [] = some (F57_e r) := by
  refine fn_to (D := D) (n := n + 8) (nt := 7) (rs := pc57_r) (c := pc57_c5) (L := [(0, .agg [li .i64 a0.N, ls a0.Text])]) (M := []) (k := 0) rfl rfl rfl rfl rfl rfl rfl ?_
  unfold F57
  refine Sim.seq ?_
  refine Sim.region0 ?_
  refine SimI.run 2 [(2, .one (lb false)), (1, .one (.ptr 1 0))] [(1, some (.cells [li .i64 a0.N, ls a0.Text]))] (by kernel_rfl) ?_
  refine SimI.done (by kernel_rfl) ?_
  refine SimE.thenN ?_
  refine Sim.seq ?_
  refine Sim.region0 ?_
  refine SimI.run 5 [(2, .one (lb (decide ((a0.Text.size : Int) ≤ 40)))), (6, .one (lb (decide ((a0.Text.size : Int) ≤ 40)))), (5, .one (li .i64 (a0.Text.size : Int))), (4, .one (ls a0.Text)), (3, .one (.ptr 1 1))] [] (by kernel_rfl) ?_
  refine SimI.done (by kernel_rfl) ?_
  refine SimE.thenN ?_
  refine Sim.ret ?_
  exact SimE.fin (by kernel_rfl)


-- 16: vedette/vedettelaw7.fewThing
def F16_e : Bool → PV × List Ob := fun r => (.one (lb r), [])
def F16 (n : Nat) (a0 : Thing) : Option Bool :=
  (F57 n a0.F.a0).bind fun (r1 : Bool) =>
  if !(r1) then
    some false
  else
    (F57 n a0.F.a1).bind fun (r2 : Bool) =>
    if !(r2) then
      some false
    else
      (F57 n a0.F.a2).bind fun (r3 : Bool) =>
      if !(r3) then
        some false
      else
        (F57 n a0.F.a3).bind fun (r4 : Bool) =>
        if !(r4) then
          some false
        else
          some true
theorem F16_ok (n : Nat) (a0 : Thing) : ∀ r, F16 n a0 = some r → D 16 [.agg (Thing.cells a0)] [] = some (F16_e r) := by
  refine fn_to (D := D) (n := n + 8) (nt := 14) (rs := pc16_r) (c := pc16_c26) (L := [(0, .agg (Thing.cells a0))]) (M := []) (k := 0) rfl rfl rfl rfl rfl rfl rfl ?_
  unfold F16
  refine Sim.seq ?_
  refine Sim.region0 ?_
  refine SimI.run 2 [(2, .one (lb false)), (1, .one (.ptr 1 0))] [(1, some (.cells (Thing.cells a0)))] (by kernel_rfl) ?_
  refine SimI.done (by kernel_rfl) ?_
  refine SimE.thenN ?_
  refine Sim.seq ?_
  refine Sim.seq ?_
  refine Sim.region0 ?_
  refine SimI.run 1 [(3, .one (li .i64 0))] [] (by kernel_rfl) ?_
  refine SimI.done (by kernel_rfl) ?_
  refine SimE.thenN ?_
  refine Sim.block ?_
  refine Sim.loop ?_
  refine SimL.succ ?_
  refine Sim.seq ?_
  refine Sim.seq ?_
  refine Sim.region [(1, .one (.ptr 1 0)), (3, .one (li .i64 0))] [(1, some (.cells (Thing.cells a0)))] (by kernel_rfl) ?_
  refine SimI.run 2 [(5, .one (lb true)), (4, .one (li .i64 0))] [] (by kernel_rfl) ?_
  refine SimI.done (by kernel_rfl) ?_
  refine SimE.thenN ?_
  refine Sim.condT (by kernel_rfl) ?_
  refine Sim.skip ?_
  refine SimE.thenN ?_
  refine Sim.seq ?_
  refine Sim.block ?_
  refine Sim.seq ?_
  refine Sim.region0 ?_
  refine SimI.run 4 [(11, .agg [li .i64 a0.F.a0.N, ls a0.F.a0.Text]), (10, .one (.ptr 1 3)), (9, .one (.ptr 1 3)), (8, .one (li .i64 0))] [] (by kernel_rfl) ?_
  refine SimI.bind (og := F57 n a0.F.a0) { dst := some 12, op := POp.call true [[]] 57 [Operand.tmp 11], guard := none, hints := [] } (fun r1 => [(12, .one (lb r1))]) (fun r1 => []) (by kernel_rfl) (fun r1 hr => pOp_eff (by kernel_rfl) (by kernel_rfl) (eff_call (ARGS := [.agg [li .i64 a0.F.a0.N, ls a0.F.a0.Text]]) (by kernel_rfl) (args_clean (by kernel_rfl) args_nil) (F57_ok n a0.F.a0 r1 hr) (by kernel_rfl))) (fun r1 => ?_)
  refine SimI.run 1 [(13, .one (lb (!(r1))))] [] (by kernel_rfl) ?_
  refine SimI.done (by kernel_rfl) ?_
  refine SimE.thenN ?_
  refine Sim.cond (!(r1)) (by kernel_rfl) ?_ ?_
  · refine Sim.seq ?_
    refine Sim.region0 ?_
    refine SimI.run 1 [(2, .one (lb false))] [] (by kernel_rfl) ?_
    refine SimI.done (by kernel_rfl) ?_
    refine SimE.thenN ?_
    refine Sim.ret ?_
    refine SimE.blockR ?_
    refine SimE.thenR ?_
    refine SimE.loopR ?_
    refine SimE.blockR ?_
    refine SimE.thenR ?_
    exact SimE.fin (by kernel_rfl)
  · refine Sim.skip ?_
    refine SimE.blockN ?_
    refine SimE.thenN ?_
    refine Sim.region0 ?_
    refine SimI.run 3 [(3, .one (li .i64 1)), (7, .one (li .i64 1)), (6, .one (li .i64 0))] [] (by kernel_rfl) ?_
    refine SimI.done (by kernel_rfl) ?_
    refine SimE.loopN ?_
    refine SimL.succ ?_
    refine Sim.seq ?_
    refine Sim.seq ?_
    refine Sim.region [(1, .one (.ptr 1 0)), (3, .one (li .i64 1))] [(1, some (.cells (Thing.cells a0)))] (by kernel_rfl) ?_
    refine SimI.run 2 [(5, .one (lb true)), (4, .one (li .i64 1))] [] (by kernel_rfl) ?_
    refine SimI.done (by kernel_rfl) ?_
    refine SimE.thenN ?_
    refine Sim.condT (by kernel_rfl) ?_
    refine Sim.skip ?_
    refine SimE.thenN ?_
    refine Sim.seq ?_
    refine Sim.block ?_
    refine Sim.seq ?_
    refine Sim.region0 ?_
    refine SimI.run 4 [(11, .agg [li .i64 a0.F.a1.N, ls a0.F.a1.Text]), (10, .one (.ptr 1 5)), (9, .one (.ptr 1 3)), (8, .one (li .i64 1))] [] (by kernel_rfl) ?_
    refine SimI.bind (og := F57 n a0.F.a1) { dst := some 12, op := POp.call true [[]] 57 [Operand.tmp 11], guard := none, hints := [] } (fun r2 => [(12, .one (lb r2))]) (fun r2 => []) (by kernel_rfl) (fun r2 hr => pOp_eff (by kernel_rfl) (by kernel_rfl) (eff_call (ARGS := [.agg [li .i64 a0.F.a1.N, ls a0.F.a1.Text]]) (by kernel_rfl) (args_clean (by kernel_rfl) args_nil) (F57_ok n a0.F.a1 r2 hr) (by kernel_rfl))) (fun r2 => ?_)
    refine SimI.run 1 [(13, .one (lb (!(r2))))] [] (by kernel_rfl) ?_
    refine SimI.done (by kernel_rfl) ?_
    refine SimE.thenN ?_
    refine Sim.cond (!(r2)) (by kernel_rfl) ?_ ?_
    · refine Sim.seq ?_
      refine Sim.region0 ?_
      refine SimI.run 1 [(2, .one (lb false))] [] (by kernel_rfl) ?_
      refine SimI.done (by kernel_rfl) ?_
      refine SimE.thenN ?_
      refine Sim.ret ?_
      refine SimE.blockR ?_
      refine SimE.thenR ?_
      refine SimE.loopR ?_
      refine SimE.blockR ?_
      refine SimE.thenR ?_
      exact SimE.fin (by kernel_rfl)
    · refine Sim.skip ?_
      refine SimE.blockN ?_
      refine SimE.thenN ?_
      refine Sim.region0 ?_
      refine SimI.run 3 [(3, .one (li .i64 2)), (7, .one (li .i64 2)), (6, .one (li .i64 1))] [] (by kernel_rfl) ?_
      refine SimI.done (by kernel_rfl) ?_
      refine SimE.loopN ?_
      refine SimL.succ ?_
      refine Sim.seq ?_
      refine Sim.seq ?_
      refine Sim.region [(1, .one (.ptr 1 0)), (3, .one (li .i64 2))] [(1, some (.cells (Thing.cells a0)))] (by kernel_rfl) ?_
      refine SimI.run 2 [(5, .one (lb true)), (4, .one (li .i64 2))] [] (by kernel_rfl) ?_
      refine SimI.done (by kernel_rfl) ?_
      refine SimE.thenN ?_
      refine Sim.condT (by kernel_rfl) ?_
      refine Sim.skip ?_
      refine SimE.thenN ?_
      refine Sim.seq ?_
      refine Sim.block ?_
      refine Sim.seq ?_
      refine Sim.region0 ?_
      refine SimI.run 4 [(11, .agg [li .i64 a0.F.a2.N, ls a0.F.a2.Text]), (10, .one (.ptr 1 7)), (9, .one (.ptr 1 3)), (8, .one (li .i64 2))] [] (by kernel_rfl) ?_
      refine SimI.bind (og := F57 n a0.F.a2) { dst := some 12, op := POp.call true [[]] 57 [Operand.tmp 11], guard := none, hints := [] } (fun r3 => [(12, .one (lb r3))]) (fun r3 => []) (by kernel_rfl) (fun r3 hr => pOp_eff (by kernel_rfl) (by kernel_rfl) (eff_call (ARGS := [.agg [li .i64 a0.F.a2.N, ls a0.F.a2.Text]]) (by kernel_rfl) (args_clean (by kernel_rfl) args_nil) (F57_ok n a0.F.a2 r3 hr) (by kernel_rfl))) (fun r3 => ?_)
      refine SimI.run 1 [(13, .one (lb (!(r3))))] [] (by kernel_rfl) ?_
      refine SimI.done (by kernel_rfl) ?_
      refine SimE.thenN ?_
      refine Sim.cond (!(r3)) (by kernel_rfl) ?_ ?_
      · refine Sim.seq ?_
        refine Sim.region0 ?_
        refine SimI.run 1 [(2, .one (lb false))] [] (by kernel_rfl) ?_
        refine SimI.done (by kernel_rfl) ?_
        refine SimE.thenN ?_
        refine Sim.ret ?_
        refine SimE.blockR ?_
        refine SimE.thenR ?_
        refine SimE.loopR ?_
        refine SimE.blockR ?_
        refine SimE.thenR ?_
        exact SimE.fin (by kernel_rfl)
      · refine Sim.skip ?_
        refine SimE.blockN ?_
        refine SimE.thenN ?_
        refine Sim.region0 ?_
        refine SimI.run 3 [(3, .one (li .i64 3)), (7, .one (li .i64 3)), (6, .one (li .i64 2))] [] (by kernel_rfl) ?_
        refine SimI.done (by kernel_rfl) ?_
        refine SimE.loopN ?_
        refine SimL.succ ?_
        refine Sim.seq ?_
        refine Sim.seq ?_
        refine Sim.region [(1, .one (.ptr 1 0)), (3, .one (li .i64 3))] [(1, some (.cells (Thing.cells a0)))] (by kernel_rfl) ?_
        refine SimI.run 2 [(5, .one (lb true)), (4, .one (li .i64 3))] [] (by kernel_rfl) ?_
        refine SimI.done (by kernel_rfl) ?_
        refine SimE.thenN ?_
        refine Sim.condT (by kernel_rfl) ?_
        refine Sim.skip ?_
        refine SimE.thenN ?_
        refine Sim.seq ?_
        refine Sim.block ?_
        refine Sim.seq ?_
        refine Sim.region0 ?_
        refine SimI.run 4 [(11, .agg [li .i64 a0.F.a3.N, ls a0.F.a3.Text]), (10, .one (.ptr 1 9)), (9, .one (.ptr 1 3)), (8, .one (li .i64 3))] [] (by kernel_rfl) ?_
        refine SimI.bind (og := F57 n a0.F.a3) { dst := some 12, op := POp.call true [[]] 57 [Operand.tmp 11], guard := none, hints := [] } (fun r4 => [(12, .one (lb r4))]) (fun r4 => []) (by kernel_rfl) (fun r4 hr => pOp_eff (by kernel_rfl) (by kernel_rfl) (eff_call (ARGS := [.agg [li .i64 a0.F.a3.N, ls a0.F.a3.Text]]) (by kernel_rfl) (args_clean (by kernel_rfl) args_nil) (F57_ok n a0.F.a3 r4 hr) (by kernel_rfl))) (fun r4 => ?_)
        refine SimI.run 1 [(13, .one (lb (!(r4))))] [] (by kernel_rfl) ?_
        refine SimI.done (by kernel_rfl) ?_
        refine SimE.thenN ?_
        refine Sim.cond (!(r4)) (by kernel_rfl) ?_ ?_
        · refine Sim.seq ?_
          refine Sim.region0 ?_
          refine SimI.run 1 [(2, .one (lb false))] [] (by kernel_rfl) ?_
          refine SimI.done (by kernel_rfl) ?_
          refine SimE.thenN ?_
          refine Sim.ret ?_
          refine SimE.blockR ?_
          refine SimE.thenR ?_
          refine SimE.loopR ?_
          refine SimE.blockR ?_
          refine SimE.thenR ?_
          exact SimE.fin (by kernel_rfl)
        · refine Sim.skip ?_
          refine SimE.blockN ?_
          refine SimE.thenN ?_
          refine Sim.region0 ?_
          refine SimI.run 3 [(3, .one (li .i64 4)), (7, .one (li .i64 4)), (6, .one (li .i64 3))] [] (by kernel_rfl) ?_
          refine SimI.done (by kernel_rfl) ?_
          refine SimE.loopN ?_
          refine SimL.succ ?_
          refine Sim.seq ?_
          refine Sim.seq ?_
          refine Sim.region [(1, .one (.ptr 1 0)), (3, .one (li .i64 4))] [(1, some (.cells (Thing.cells a0)))] (by kernel_rfl) ?_
          refine SimI.run 2 [(5, .one (lb false)), (4, .one (li .i64 4))] [] (by kernel_rfl) ?_
          refine SimI.done (by kernel_rfl) ?_
          refine SimE.thenN ?_
          refine Sim.condF (by kernel_rfl) ?_
          refine Sim.exit ?_
          refine SimE.thenX ?_
          refine SimE.loopX ?_
          refine SimE.blockX ?_
          refine SimE.thenN ?_
          refine Sim.seq ?_
          refine Sim.region0 ?_
          refine SimI.run 1 [(2, .one (lb true))] [] (by kernel_rfl) ?_
          refine SimI.done (by kernel_rfl) ?_
          refine SimE.thenN ?_
          refine Sim.ret ?_
          exact SimE.fin (by kernel_rfl)


-- 17: vedette/vedettelaw7.fewThings
def F17_e : Bool → PV × List Ob := fun r => (.one (lb r), [])
def F17_l4 (n : Nat) (a0 : (List Thing)) : Nat → Int → Option Bool
  | 0, _ => none
  | m + 1, i3 =>
    if decide (i3 < ((a0).length : Int)) then
      (ix a0 i3).bind fun (x5 : Thing) =>
      (F16 n x5).bind fun (r6 : Bool) =>
      if !(r6) then
        some false
      else
        (F17_l4 n a0 m) (IntKind.wrap .i64 (i3 + 1))
    else
      some (decide (((a0).length : Int) ≤ 30))
theorem F17_l4_ok (n : Nat) (a0 : (List Thing)) : ∀ (m : Nat) (i3 : Int), SimL Try.prog D (n + 8) m pc17_c18 [(0, .one (vw Thing.cod a0)), (3, .one (li .i64 i3))] [] (F17_l4 n a0 m i3) (QB 0 (QT Try.prog D (n + 8) pc17_c24 (QF false pc17_r 0 F17_e))) := by
  intro m_l4
  induction m_l4 with
  | zero => intro i3; exact SimL.zero'  rfl
  | succ m_l4 ih_l4 =>
    intro i3
    refine SimL.succ ?_
    unfold F17_l4
    refine Sim.seq ?_
    refine Sim.seq ?_
    refine Sim.region [(0, .one (vw Thing.cod a0)), (3, .one (li .i64 i3))] [] (by kernel_rfl) ?_
    refine SimI.run 4 [(7, .one (lb (decide (i3 < ((a0).length : Int))))), (6, .one (li .i64 ((a0).length : Int))), (5, .one (vw Thing.cod a0)), (4, .one (li .i64 i3))] [] (by kernel_rfl) ?_
    refine SimI.done (by kernel_rfl) ?_
    refine SimE.thenN ?_
    refine Sim.cond (decide (i3 < ((a0).length : Int))) (by kernel_rfl) ?_ ?_
    · refine Sim.skip ?_
      refine SimE.thenN ?_
      refine Sim.seq ?_
      refine Sim.block ?_
      refine Sim.seq ?_
      refine Sim.region0 ?_
      refine SimI.run 2 [(11, .one (li .i64 i3)), (10, .one (vw Thing.cod a0))] [] (by kernel_rfl) ?_
      refine SimI.bind (og := ix a0 i3) { dst := some 12, op := POp.iaddrS 11 (Operand.tmp 10) (Operand.tmp 11), guard := none, hints := [] } (fun x5 => [(12, .one (.eptr (Thing.cod.enc x5) 0))]) (fun x5 => []) (by kernel_rfl) (fun x5 hr => pOp_eff (by kernel_rfl) (by kernel_rfl) (eff_idx (c := Thing.cod) (l := a0) (k := .i64) (n := i3) (by kernel_rfl) (by kernel_rfl) (by kernel_rfl) hr)) (fun x5 => ?_)
      refine SimI.run 1 [(13, .agg (Thing.cells x5))] [] (by kernel_rfl) ?_
      refine SimI.bind (og := F16 n x5) { dst := some 14, op := POp.call true [[]] 16 [Operand.tmp 13], guard := none, hints := [] } (fun r6 => [(14, .one (lb r6))]) (fun r6 => []) (by kernel_rfl) (fun r6 hr => pOp_eff (by kernel_rfl) (by kernel_rfl) (eff_call (ARGS := [.agg (Thing.cells x5)]) (by kernel_rfl) (args_clean (by kernel_rfl) args_nil) (F16_ok n x5 r6 hr) (by kernel_rfl))) (fun r6 => ?_)
      refine SimI.run 1 [(15, .one (lb (!(r6))))] [] (by kernel_rfl) ?_
      refine SimI.done (by kernel_rfl) ?_
      refine SimE.thenN ?_
      refine Sim.cond (!(r6)) (by kernel_rfl) ?_ ?_
      · refine Sim.seq ?_
        refine Sim.region0 ?_
        refine SimI.run 1 [(2, .one (lb false))] [] (by kernel_rfl) ?_
        refine SimI.done (by kernel_rfl) ?_
        refine SimE.thenN ?_
        refine Sim.ret ?_
        refine SimE.blockR ?_
        refine SimE.thenR ?_
        refine SimE.loopR ?_
        refine SimE.blockR ?_
        refine SimE.thenR ?_
        exact SimE.fin (by kernel_rfl)
      · refine Sim.skip ?_
        refine SimE.blockN ?_
        refine SimE.thenN ?_
        refine Sim.region0 ?_
        refine SimI.run 3 [(3, .one (li .i64 (IntKind.wrap .i64 (i3 + 1)))), (9, .one (li .i64 (IntKind.wrap .i64 (i3 + 1)))), (8, .one (li .i64 i3))] [] (by kernel_rfl) ?_
        refine SimI.done (by kernel_rfl) ?_
        refine SimE.loopN ?_
        refine SimL.pre (ts := [0, 3]) (os := []) (ow := []) [(0, .one (vw Thing.cod a0)), (3, .one (li .i64 (IntKind.wrap .i64 (i3 + 1))))] [] (by kernel_rfl) (by kernel_rfl) (by kernel_rfl) ?_
        exact ih_l4 (IntKind.wrap .i64 (i3 + 1))
    · refine Sim.exit ?_
      refine SimE.thenX ?_
      refine SimE.loopX ?_
      refine SimE.blockX ?_
      refine SimE.thenN ?_
      refine Sim.seq ?_
      refine Sim.region0 ?_
      refine SimI.run 4 [(2, .one (lb (decide (((a0).length : Int) ≤ 30)))), (18, .one (lb (decide (((a0).length : Int) ≤ 30)))), (17, .one (li .i64 ((a0).length : Int))), (16, .one (vw Thing.cod a0))] [] (by kernel_rfl) ?_
      refine SimI.done (by kernel_rfl) ?_
      refine SimE.thenN ?_
      refine Sim.ret ?_
      exact SimE.fin (by kernel_rfl)

def F17 (n : Nat) (a0 : (List Thing)) : Option Bool :=
  F17_l4 n a0 (n + 8) 0
theorem F17_ok (n : Nat) (a0 : (List Thing)) : ∀ r, F17 n a0 = some r → D 17 [.one (vw Thing.cod a0)] [] = some (F17_e r) := by
  refine fn_to (D := D) (n := n + 8) (nt := 19) (rs := pc17_r) (c := pc17_c26) (L := [(0, .one (vw Thing.cod a0))]) (M := []) (k := 0) rfl rfl rfl rfl rfl rfl rfl ?_
  unfold F17
  refine Sim.seq ?_
  refine Sim.region0 ?_
  refine SimI.run 1 [(2, .one (lb false))] [] (by kernel_rfl) ?_
  refine SimI.done (by kernel_rfl) ?_
  refine SimE.thenN ?_
  refine Sim.seq ?_
  refine Sim.seq ?_
  refine Sim.region0 ?_
  refine SimI.run 1 [(3, .one (li .i64 0))] [] (by kernel_rfl) ?_
  refine SimI.done (by kernel_rfl) ?_
  refine SimE.thenN ?_
  refine Sim.block ?_
  refine Sim.loop ?_
  refine SimL.pre (ts := [0, 3]) (os := []) (ow := []) [(0, .one (vw Thing.cod a0)), (3, .one (li .i64 0))] [] (by kernel_rfl) (by kernel_rfl) (by kernel_rfl) ?_
  exact F17_l4_ok n a0 (n + 8) 0


-- 58: vedette/vedetteref3.On
def F58_e : Bool → PV × List Ob := fun r => (.one (lb r), [])
def F58 (n : Nat) (a0 : Point) : Option Bool :=
  if decide ((0 : Int) ≤ a0.X) then
    if decide (a0.X < 64) then
      if decide ((0 : Int) ≤ a0.Y) then
        some (decide (a0.Y < 64))
      else
        some false
    else
      some false
  else
    some false
theorem F58_ok (n : Nat) (a0 : Point) : ∀ r, F58 n a0 = some r → D 58 [.agg [li .i64 a0.X, li .i64 a0.Y]] [] = some (F58_e r) := by
  refine fn_to (D := D) (n := n + 8) (nt := 21) (rs := pc58_r) (c := pc58_c5) (L := [(0, .agg [li .i64 a0.X, li .i64 a0.Y])]) (M := []) (k := 0) rfl rfl rfl rfl rfl rfl rfl ?_
  unfold F58
  refine Sim.seq ?_
  refine Sim.region0 ?_
  refine SimI.run 2 [(2, .one (lb false)), (1, .one (.ptr 1 0))] [(1, some (.cells [li .i64 a0.X, li .i64 a0.Y]))] (by kernel_rfl) ?_
  refine SimI.done (by kernel_rfl) ?_
  refine SimE.thenN ?_
  refine Sim.seq ?_
  refine Sim.region0 ?_
  refine SimI.run 4 [(6, .one (lb (decide ((0 : Int) ≤ a0.X)))), (5, .one (lb (decide ((0 : Int) ≤ a0.X)))), (4, .one (li .i64 a0.X)), (3, .one (.ptr 1 0))] [] (by kernel_rfl) ?_
  refine SimI.split 6 (decide ((0 : Int) ≤ a0.X)) (by kernel_rfl) ?_ ?_
  · refine SimI.run 5 [(11, .one (lb (decide (a0.X < 64)))), (10, .one (lb (decide (a0.X < 64)))), (9, .one (lb (decide (a0.X < 64)))), (8, .one (li .i64 a0.X)), (7, .one (.ptr 1 0))] [] (by kernel_rfl) ?_
    refine SimI.split 11 (decide (a0.X < 64)) (by kernel_rfl) ?_ ?_
    · refine SimI.run 5 [(16, .one (lb (decide ((0 : Int) ≤ a0.Y)))), (15, .one (lb (decide ((0 : Int) ≤ a0.Y)))), (14, .one (lb (decide ((0 : Int) ≤ a0.Y)))), (13, .one (li .i64 a0.Y)), (12, .one (.ptr 1 1))] [] (by kernel_rfl) ?_
      refine SimI.split 16 (decide ((0 : Int) ≤ a0.Y)) (by kernel_rfl) ?_ ?_
      · refine SimI.run 5 [(2, .one (lb (decide (a0.Y < 64)))), (20, .one (lb (decide (a0.Y < 64)))), (19, .one (lb (decide (a0.Y < 64)))), (18, .one (li .i64 a0.Y)), (17, .one (.ptr 1 1))] [] (by kernel_rfl) ?_
        refine SimI.done (by kernel_rfl) ?_
        refine SimE.thenN ?_
        refine Sim.ret ?_
        exact SimE.fin (by kernel_rfl)
      · refine SimI.run 5 [(2, .one (lb false)), (20, .one (lb false)), (19, .tup []), (18, .tup []), (17, .tup [])] [] (by kernel_rfl) ?_
        refine SimI.done (by kernel_rfl) ?_
        refine SimE.thenN ?_
        refine Sim.ret ?_
        exact SimE.fin (by kernel_rfl)
    · refine SimI.run 10 [(2, .one (lb false)), (20, .one (lb false)), (19, .tup []), (18, .tup []), (17, .tup []), (16, .one (lb false)), (15, .one (lb false)), (14, .tup []), (13, .tup []), (12, .tup [])] [] (by kernel_rfl) ?_
      refine SimI.done (by kernel_rfl) ?_
      refine SimE.thenN ?_
      refine Sim.ret ?_
      exact SimE.fin (by kernel_rfl)
  · refine SimI.run 15 [(2, .one (lb false)), (20, .one (lb false)), (19, .tup []), (18, .tup []), (17, .tup []), (16, .one (lb false)), (15, .one (lb false)), (14, .tup []), (13, .tup []), (12, .tup []), (11, .one (lb false)), (10, .one (lb false)), (9, .tup []), (8, .tup []), (7, .tup [])] [] (by kernel_rfl) ?_
    refine SimI.done (by kernel_rfl) ?_
    refine SimE.thenN ?_
    refine Sim.ret ?_
    exact SimE.fin (by kernel_rfl)


-- 59: vedette/vedetteref6.IsField
def F59_e : Bool → PV × List Ob := fun r => (.one (lb r), [])
def F59 (n : Nat) (a0 : Field) : Option Bool :=
  if a0.N == 0 then
    some (decide ((a0.Text.size : Int) ≤ 12))
  else
    if a0.Text.toList == ByteArray.empty.toList then
      some (decide ((a0.Text.size : Int) ≤ 12))
    else
      some false
theorem F59_ok (n : Nat) (a0 : Field) : ∀ r, F59 n a0 = some r → D 59 [.agg [li .i64 a0.N, ls a0.Text]] [] = some (F59_e r) := by
  refine fn_to (D := D) (n := n + 8) (nt := 17) (rs := pc59_r) (c := pc59_c5) (L := [(0, .agg [li .i64 a0.N, ls a0.Text])]) (M := []) (k := 0) rfl rfl rfl rfl rfl rfl rfl ?_
  unfold F59
  refine Sim.seq ?_
  refine Sim.region0 ?_
  refine SimI.run 2 [(2, .one (lb false)), (1, .one (.ptr 1 0))] [(1, some (.cells [li .i64 a0.N, ls a0.Text]))] (by kernel_rfl) ?_
  refine SimI.done (by kernel_rfl) ?_
  refine SimE.thenN ?_
  refine Sim.seq ?_
  refine Sim.region0 ?_
  refine SimI.run 4 [(6, .one (lb (a0.N == 0))), (5, .one (lb (a0.N == 0))), (4, .one (li .i64 a0.N)), (3, .one (.ptr 1 0))] [] (by kernel_rfl) ?_
  refine SimI.split 6 (a0.N == 0) (by kernel_rfl) ?_ ?_
  · refine SimI.run 11 [(2, .one (lb (decide ((a0.Text.size : Int) ≤ 12)))), (16, .one (lb (decide ((a0.Text.size : Int) ≤ 12)))), (15, .one (lb (decide ((a0.Text.size : Int) ≤ 12)))), (14, .one (li .i64 (a0.Text.size : Int))), (13, .one (ls a0.Text)), (12, .one (.ptr 1 1)), (11, .one (lb true)), (10, .one (lb true)), (9, .tup []), (8, .tup []), (7, .tup [])] [] (by kernel_rfl) ?_
    refine SimI.done (by kernel_rfl) ?_
    refine SimE.thenN ?_
    refine Sim.ret ?_
    exact SimE.fin (by kernel_rfl)
  · refine SimI.run 5 [(11, .one (lb (a0.Text.toList == ByteArray.empty.toList))), (10, .one (lb (a0.Text.toList == ByteArray.empty.toList))), (9, .one (lb (a0.Text.toList == ByteArray.empty.toList))), (8, .one (ls a0.Text)), (7, .one (.ptr 1 1))] [] (by kernel_rfl) ?_
    refine SimI.split 11 (a0.Text.toList == ByteArray.empty.toList) (by kernel_rfl) ?_ ?_
    · refine SimI.run 6 [(2, .one (lb (decide ((a0.Text.size : Int) ≤ 12)))), (16, .one (lb (decide ((a0.Text.size : Int) ≤ 12)))), (15, .one (lb (decide ((a0.Text.size : Int) ≤ 12)))), (14, .one (li .i64 (a0.Text.size : Int))), (13, .one (ls a0.Text)), (12, .one (.ptr 1 1))] [] (by kernel_rfl) ?_
      refine SimI.done (by kernel_rfl) ?_
      refine SimE.thenN ?_
      refine Sim.ret ?_
      exact SimE.fin (by kernel_rfl)
    · refine SimI.run 6 [(2, .one (lb false)), (16, .one (lb false)), (15, .tup []), (14, .tup []), (13, .tup []), (12, .tup [])] [] (by kernel_rfl) ?_
      refine SimI.done (by kernel_rfl) ?_
      refine SimE.thenN ?_
      refine Sim.ret ?_
      exact SimE.fin (by kernel_rfl)


-- 18: vedette/vedetteref6.Is
def F18_e : Bool → PV × List Ob := fun r => (.one (lb r), [])
def F18_u15 (n : Nat) (b14 : Bool) : Option Bool :=
    some b14
theorem F18_u15_ok (n : Nat) (a0 : Thing) (b14 : Bool) : SimL Try.prog D (n + 8) (n + 4) pc18_c13 [(1, .one (.ptr 1 0)), (3, .one (lb b14)), (4, .one (li .i64 4))] [(1, some (.cells (Thing.cells a0)))] (F18_u15 n b14) (QB 0 (QT Try.prog D (n + 8) pc18_c19 (QF false pc18_r 0 F18_e))) := by
    unfold F18_u15
    refine SimL.succ ?_
    refine Sim.seq ?_
    refine Sim.seq ?_
    refine Sim.region [(1, .one (.ptr 1 0)), (3, .one (lb b14)), (4, .one (li .i64 4))] [(1, some (.cells (Thing.cells a0)))] (by kernel_rfl) ?_
    refine SimI.run 2 [(19, .one (lb false)), (18, .one (li .i64 4))] [] (by kernel_rfl) ?_
    refine SimI.done (by kernel_rfl) ?_
    refine SimE.thenN ?_
    refine Sim.condF (by kernel_rfl) ?_
    refine Sim.exit ?_
    refine SimE.thenX ?_
    refine SimE.loopX ?_
    refine SimE.blockX ?_
    refine SimE.thenN ?_
    refine Sim.seq ?_
    refine Sim.region0 ?_
    refine SimI.run 2 [(2, .one (lb b14)), (30, .one (lb b14))] [] (by kernel_rfl) ?_
    refine SimI.done (by kernel_rfl) ?_
    refine SimE.thenN ?_
    refine Sim.ret ?_
    exact SimE.fin (by kernel_rfl)

def F18_u12 (n : Nat) (a0 : Thing) (b11 : Bool) : Option Bool :=
    if b11 then
      (F59 n a0.F.a3).bind fun (r13 : Bool) =>
      F18_u15 n r13
    else
      F18_u15 n false
theorem F18_u12_ok (n : Nat) (a0 : Thing) (b11 : Bool) : SimL Try.prog D (n + 8) (n + 5) pc18_c13 [(1, .one (.ptr 1 0)), (3, .one (lb b11)), (4, .one (li .i64 3))] [(1, some (.cells (Thing.cells a0)))] (F18_u12 n a0 b11) (QB 0 (QT Try.prog D (n + 8) pc18_c19 (QF false pc18_r 0 F18_e))) := by
    unfold F18_u12
    refine SimL.succ ?_
    refine Sim.seq ?_
    refine Sim.seq ?_
    refine Sim.region [(1, .one (.ptr 1 0)), (3, .one (lb b11)), (4, .one (li .i64 3))] [(1, some (.cells (Thing.cells a0)))] (by kernel_rfl) ?_
    refine SimI.run 2 [(19, .one (lb true)), (18, .one (li .i64 3))] [] (by kernel_rfl) ?_
    refine SimI.done (by kernel_rfl) ?_
    refine SimE.thenN ?_
    refine Sim.condT (by kernel_rfl) ?_
    refine Sim.skip ?_
    refine SimE.thenN ?_
    refine Sim.seq ?_
    refine Sim.block ?_
    refine Sim.region0 ?_
    refine SimI.run 2 [(23, .one (lb b11)), (22, .one (lb b11))] [] (by kernel_rfl) ?_
    refine SimI.split 23 b11 (by kernel_rfl) ?_ ?_
    · refine SimI.run 4 [(27, .agg [li .i64 a0.F.a3.N, ls a0.F.a3.Text]), (26, .one (.ptr 1 9)), (25, .one (.ptr 1 3)), (24, .one (li .i64 3))] [] (by kernel_rfl) ?_
      refine SimI.bind (og := F59 n a0.F.a3) { dst := some 28, op := POp.call true [[]] 59 [Operand.tmp 27], guard := some (23, true), hints := [] } (fun r13 => [(28, .one (lb r13))]) (fun r13 => []) (by kernel_rfl) (fun r13 hr => pOp_eff (by kernel_rfl) (by kernel_rfl) (eff_call (ARGS := [.agg [li .i64 a0.F.a3.N, ls a0.F.a3.Text]]) (by kernel_rfl) (args_clean (by kernel_rfl) args_nil) (F59_ok n a0.F.a3 r13 hr) (by kernel_rfl))) (fun r13 => ?_)
      refine SimI.run 2 [(3, .one (lb r13)), (29, .one (lb r13))] [] (by kernel_rfl) ?_
      refine SimI.done (by kernel_rfl) ?_
      refine SimE.blockN ?_
      refine SimE.thenN ?_
      refine Sim.region0 ?_
      refine SimI.run 3 [(4, .one (li .i64 4)), (21, .one (li .i64 4)), (20, .one (li .i64 3))] [] (by kernel_rfl) ?_
      refine SimI.done (by kernel_rfl) ?_
      refine SimE.loopN ?_
      refine SimL.pre (ts := [1, 3, 4]) (os := [1]) (ow := []) [(1, .one (.ptr 1 0)), (3, .one (lb r13)), (4, .one (li .i64 4))] [(1, some (.cells (Thing.cells a0)))] (by kernel_rfl) (by kernel_rfl) (by kernel_rfl) ?_
      exact F18_u15_ok n a0 r13
    · refine SimI.run 7 [(3, .one (lb false)), (29, .one (lb false)), (28, .tup []), (27, .tup []), (26, .tup []), (25, .tup []), (24, .tup [])] [] (by kernel_rfl) ?_
      refine SimI.done (by kernel_rfl) ?_
      refine SimE.blockN ?_
      refine SimE.thenN ?_
      refine Sim.region0 ?_
      refine SimI.run 3 [(4, .one (li .i64 4)), (21, .one (li .i64 4)), (20, .one (li .i64 3))] [] (by kernel_rfl) ?_
      refine SimI.done (by kernel_rfl) ?_
      refine SimE.loopN ?_
      refine SimL.pre (ts := [1, 3, 4]) (os := [1]) (ow := []) [(1, .one (.ptr 1 0)), (3, .one (lb false)), (4, .one (li .i64 4))] [(1, some (.cells (Thing.cells a0)))] (by kernel_rfl) (by kernel_rfl) (by kernel_rfl) ?_
      exact F18_u15_ok n a0 false

def F18_u9 (n : Nat) (a0 : Thing) (b8 : Bool) : Option Bool :=
    if b8 then
      (F59 n a0.F.a2).bind fun (r10 : Bool) =>
      F18_u12 n a0 r10
    else
      F18_u12 n a0 false
theorem F18_u9_ok (n : Nat) (a0 : Thing) (b8 : Bool) : SimL Try.prog D (n + 8) (n + 6) pc18_c13 [(1, .one (.ptr 1 0)), (3, .one (lb b8)), (4, .one (li .i64 2))] [(1, some (.cells (Thing.cells a0)))] (F18_u9 n a0 b8) (QB 0 (QT Try.prog D (n + 8) pc18_c19 (QF false pc18_r 0 F18_e))) := by
    unfold F18_u9
    refine SimL.succ ?_
    refine Sim.seq ?_
    refine Sim.seq ?_
    refine Sim.region [(1, .one (.ptr 1 0)), (3, .one (lb b8)), (4, .one (li .i64 2))] [(1, some (.cells (Thing.cells a0)))] (by kernel_rfl) ?_
    refine SimI.run 2 [(19, .one (lb true)), (18, .one (li .i64 2))] [] (by kernel_rfl) ?_
    refine SimI.done (by kernel_rfl) ?_
    refine SimE.thenN ?_
    refine Sim.condT (by kernel_rfl) ?_
    refine Sim.skip ?_
    refine SimE.thenN ?_
    refine Sim.seq ?_
    refine Sim.block ?_
    refine Sim.region0 ?_
    refine SimI.run 2 [(23, .one (lb b8)), (22, .one (lb b8))] [] (by kernel_rfl) ?_
    refine SimI.split 23 b8 (by kernel_rfl) ?_ ?_
    · refine SimI.run 4 [(27, .agg [li .i64 a0.F.a2.N, ls a0.F.a2.Text]), (26, .one (.ptr 1 7)), (25, .one (.ptr 1 3)), (24, .one (li .i64 2))] [] (by kernel_rfl) ?_
      refine SimI.bind (og := F59 n a0.F.a2) { dst := some 28, op := POp.call true [[]] 59 [Operand.tmp 27], guard := some (23, true), hints := [] } (fun r10 => [(28, .one (lb r10))]) (fun r10 => []) (by kernel_rfl) (fun r10 hr => pOp_eff (by kernel_rfl) (by kernel_rfl) (eff_call (ARGS := [.agg [li .i64 a0.F.a2.N, ls a0.F.a2.Text]]) (by kernel_rfl) (args_clean (by kernel_rfl) args_nil) (F59_ok n a0.F.a2 r10 hr) (by kernel_rfl))) (fun r10 => ?_)
      refine SimI.run 2 [(3, .one (lb r10)), (29, .one (lb r10))] [] (by kernel_rfl) ?_
      refine SimI.done (by kernel_rfl) ?_
      refine SimE.blockN ?_
      refine SimE.thenN ?_
      refine Sim.region0 ?_
      refine SimI.run 3 [(4, .one (li .i64 3)), (21, .one (li .i64 3)), (20, .one (li .i64 2))] [] (by kernel_rfl) ?_
      refine SimI.done (by kernel_rfl) ?_
      refine SimE.loopN ?_
      refine SimL.pre (ts := [1, 3, 4]) (os := [1]) (ow := []) [(1, .one (.ptr 1 0)), (3, .one (lb r10)), (4, .one (li .i64 3))] [(1, some (.cells (Thing.cells a0)))] (by kernel_rfl) (by kernel_rfl) (by kernel_rfl) ?_
      exact F18_u12_ok n a0 r10
    · refine SimI.run 7 [(3, .one (lb false)), (29, .one (lb false)), (28, .tup []), (27, .tup []), (26, .tup []), (25, .tup []), (24, .tup [])] [] (by kernel_rfl) ?_
      refine SimI.done (by kernel_rfl) ?_
      refine SimE.blockN ?_
      refine SimE.thenN ?_
      refine Sim.region0 ?_
      refine SimI.run 3 [(4, .one (li .i64 3)), (21, .one (li .i64 3)), (20, .one (li .i64 2))] [] (by kernel_rfl) ?_
      refine SimI.done (by kernel_rfl) ?_
      refine SimE.loopN ?_
      refine SimL.pre (ts := [1, 3, 4]) (os := [1]) (ow := []) [(1, .one (.ptr 1 0)), (3, .one (lb false)), (4, .one (li .i64 3))] [(1, some (.cells (Thing.cells a0)))] (by kernel_rfl) (by kernel_rfl) (by kernel_rfl) ?_
      exact F18_u12_ok n a0 false

def F18_u6 (n : Nat) (a0 : Thing) (b5 : Bool) : Option Bool :=
    if b5 then
      (F59 n a0.F.a1).bind fun (r7 : Bool) =>
      F18_u9 n a0 r7
    else
      F18_u9 n a0 false
theorem F18_u6_ok (n : Nat) (a0 : Thing) (b5 : Bool) : SimL Try.prog D (n + 8) (n + 7) pc18_c13 [(1, .one (.ptr 1 0)), (3, .one (lb b5)), (4, .one (li .i64 1))] [(1, some (.cells (Thing.cells a0)))] (F18_u6 n a0 b5) (QB 0 (QT Try.prog D (n + 8) pc18_c19 (QF false pc18_r 0 F18_e))) := by
    unfold F18_u6
    refine SimL.succ ?_
    refine Sim.seq ?_
    refine Sim.seq ?_
    refine Sim.region [(1, .one (.ptr 1 0)), (3, .one (lb b5)), (4, .one (li .i64 1))] [(1, some (.cells (Thing.cells a0)))] (by kernel_rfl) ?_
    refine SimI.run 2 [(19, .one (lb true)), (18, .one (li .i64 1))] [] (by kernel_rfl) ?_
    refine SimI.done (by kernel_rfl) ?_
    refine SimE.thenN ?_
    refine Sim.condT (by kernel_rfl) ?_
    refine Sim.skip ?_
    refine SimE.thenN ?_
    refine Sim.seq ?_
    refine Sim.block ?_
    refine Sim.region0 ?_
    refine SimI.run 2 [(23, .one (lb b5)), (22, .one (lb b5))] [] (by kernel_rfl) ?_
    refine SimI.split 23 b5 (by kernel_rfl) ?_ ?_
    · refine SimI.run 4 [(27, .agg [li .i64 a0.F.a1.N, ls a0.F.a1.Text]), (26, .one (.ptr 1 5)), (25, .one (.ptr 1 3)), (24, .one (li .i64 1))] [] (by kernel_rfl) ?_
      refine SimI.bind (og := F59 n a0.F.a1) { dst := some 28, op := POp.call true [[]] 59 [Operand.tmp 27], guard := some (23, true), hints := [] } (fun r7 => [(28, .one (lb r7))]) (fun r7 => []) (by kernel_rfl) (fun r7 hr => pOp_eff (by kernel_rfl) (by kernel_rfl) (eff_call (ARGS := [.agg [li .i64 a0.F.a1.N, ls a0.F.a1.Text]]) (by kernel_rfl) (args_clean (by kernel_rfl) args_nil) (F59_ok n a0.F.a1 r7 hr) (by kernel_rfl))) (fun r7 => ?_)
      refine SimI.run 2 [(3, .one (lb r7)), (29, .one (lb r7))] [] (by kernel_rfl) ?_
      refine SimI.done (by kernel_rfl) ?_
      refine SimE.blockN ?_
      refine SimE.thenN ?_
      refine Sim.region0 ?_
      refine SimI.run 3 [(4, .one (li .i64 2)), (21, .one (li .i64 2)), (20, .one (li .i64 1))] [] (by kernel_rfl) ?_
      refine SimI.done (by kernel_rfl) ?_
      refine SimE.loopN ?_
      refine SimL.pre (ts := [1, 3, 4]) (os := [1]) (ow := []) [(1, .one (.ptr 1 0)), (3, .one (lb r7)), (4, .one (li .i64 2))] [(1, some (.cells (Thing.cells a0)))] (by kernel_rfl) (by kernel_rfl) (by kernel_rfl) ?_
      exact F18_u9_ok n a0 r7
    · refine SimI.run 7 [(3, .one (lb false)), (29, .one (lb false)), (28, .tup []), (27, .tup []), (26, .tup []), (25, .tup []), (24, .tup [])] [] (by kernel_rfl) ?_
      refine SimI.done (by kernel_rfl) ?_
      refine SimE.blockN ?_
      refine SimE.thenN ?_
      refine Sim.region0 ?_
      refine SimI.run 3 [(4, .one (li .i64 2)), (21, .one (li .i64 2)), (20, .one (li .i64 1))] [] (by kernel_rfl) ?_
      refine SimI.done (by kernel_rfl) ?_
      refine SimE.loopN ?_
      refine SimL.pre (ts := [1, 3, 4]) (os := [1]) (ow := []) [(1, .one (.ptr 1 0)), (3, .one (lb false)), (4, .one (li .i64 2))] [(1, some (.cells (Thing.cells a0)))] (by kernel_rfl) (by kernel_rfl) (by kernel_rfl) ?_
      exact F18_u9_ok n a0 false

def F18_j3 (n : Nat) (a0 : Thing) (b2 : Bool) : Option Bool :=
    if b2 then
      (F59 n a0.F.a0).bind fun (r4 : Bool) =>
      F18_u6 n a0 r4
    else
      F18_u6 n a0 false
theorem F18_j3_ok (n : Nat) (a0 : Thing) (b2 : Bool) : Sim Try.prog D (n + 8) pc18_c20 [(1, .one (.ptr 1 0)), (3, .one (lb b2))] [(1, some (.cells (Thing.cells a0)))] (F18_j3 n a0 b2) (QF false pc18_r 0 F18_e) := by
    unfold F18_j3
    refine Sim.seq ?_
    refine Sim.seq ?_
    refine Sim.region [(1, .one (.ptr 1 0)), (3, .one (lb b2))] [(1, some (.cells (Thing.cells a0)))] (by kernel_rfl) ?_
    refine SimI.run 1 [(4, .one (li .i64 0))] [] (by kernel_rfl) ?_
    refine SimI.done (by kernel_rfl) ?_
    refine SimE.thenN ?_
    refine Sim.block ?_
    refine Sim.loop ?_
    refine SimL.succ ?_
    refine Sim.seq ?_
    refine Sim.seq ?_
    refine Sim.region [(1, .one (.ptr 1 0)), (3, .one (lb b2)), (4, .one (li .i64 0))] [(1, some (.cells (Thing.cells a0)))] (by kernel_rfl) ?_
    refine SimI.run 2 [(19, .one (lb true)), (18, .one (li .i64 0))] [] (by kernel_rfl) ?_
    refine SimI.done (by kernel_rfl) ?_
    refine SimE.thenN ?_
    refine Sim.condT (by kernel_rfl) ?_
    refine Sim.skip ?_
    refine SimE.thenN ?_
    refine Sim.seq ?_
    refine Sim.block ?_
    refine Sim.region0 ?_
    refine SimI.run 2 [(23, .one (lb b2)), (22, .one (lb b2))] [] (by kernel_rfl) ?_
    refine SimI.split 23 b2 (by kernel_rfl) ?_ ?_
    · refine SimI.run 4 [(27, .agg [li .i64 a0.F.a0.N, ls a0.F.a0.Text]), (26, .one (.ptr 1 3)), (25, .one (.ptr 1 3)), (24, .one (li .i64 0))] [] (by kernel_rfl) ?_
      refine SimI.bind (og := F59 n a0.F.a0) { dst := some 28, op := POp.call true [[]] 59 [Operand.tmp 27], guard := some (23, true), hints := [] } (fun r4 => [(28, .one (lb r4))]) (fun r4 => []) (by kernel_rfl) (fun r4 hr => pOp_eff (by kernel_rfl) (by kernel_rfl) (eff_call (ARGS := [.agg [li .i64 a0.F.a0.N, ls a0.F.a0.Text]]) (by kernel_rfl) (args_clean (by kernel_rfl) args_nil) (F59_ok n a0.F.a0 r4 hr) (by kernel_rfl))) (fun r4 => ?_)
      refine SimI.run 2 [(3, .one (lb r4)), (29, .one (lb r4))] [] (by kernel_rfl) ?_
      refine SimI.done (by kernel_rfl) ?_
      refine SimE.blockN ?_
      refine SimE.thenN ?_
      refine Sim.region0 ?_
      refine SimI.run 3 [(4, .one (li .i64 1)), (21, .one (li .i64 1)), (20, .one (li .i64 0))] [] (by kernel_rfl) ?_
      refine SimI.done (by kernel_rfl) ?_
      refine SimE.loopN ?_
      refine SimL.pre (ts := [1, 3, 4]) (os := [1]) (ow := []) [(1, .one (.ptr 1 0)), (3, .one (lb r4)), (4, .one (li .i64 1))] [(1, some (.cells (Thing.cells a0)))] (by kernel_rfl) (by kernel_rfl) (by kernel_rfl) ?_
      exact F18_u6_ok n a0 r4
    · refine SimI.run 7 [(3, .one (lb false)), (29, .one (lb false)), (28, .tup []), (27, .tup []), (26, .tup []), (25, .tup []), (24, .tup [])] [] (by kernel_rfl) ?_
      refine SimI.done (by kernel_rfl) ?_
      refine SimE.blockN ?_
      refine SimE.thenN ?_
      refine Sim.region0 ?_
      refine SimI.run 3 [(4, .one (li .i64 1)), (21, .one (li .i64 1)), (20, .one (li .i64 0))] [] (by kernel_rfl) ?_
      refine SimI.done (by kernel_rfl) ?_
      refine SimE.loopN ?_
      refine SimL.pre (ts := [1, 3, 4]) (os := [1]) (ow := []) [(1, .one (.ptr 1 0)), (3, .one (lb false)), (4, .one (li .i64 1))] [(1, some (.cells (Thing.cells a0)))] (by kernel_rfl) (by kernel_rfl) (by kernel_rfl) ?_
      exact F18_u6_ok n a0 false

def F18 (n : Nat) (a0 : Thing) : Option Bool :=
  if decide ((0 : Int) ≤ a0.ID) then
    if decide (a0.ID ≤ 1000000) then
      (F58 n a0.At).bind fun (r1 : Bool) =>
      F18_j3 n a0 r1
    else
      F18_j3 n a0 false
  else
    F18_j3 n a0 false
theorem F18_ok (n : Nat) (a0 : Thing) : ∀ r, F18 n a0 = some r → D 18 [.agg (Thing.cells a0)] [] = some (F18_e r) := by
  refine fn_to (D := D) (n := n + 8) (nt := 31) (rs := pc18_r) (c := pc18_c22) (L := [(0, .agg (Thing.cells a0))]) (M := []) (k := 0) rfl rfl rfl rfl rfl rfl rfl ?_
  unfold F18
  refine Sim.seq ?_
  refine Sim.region0 ?_
  refine SimI.run 2 [(2, .one (lb false)), (1, .one (.ptr 1 0))] [(1, some (.cells (Thing.cells a0)))] (by kernel_rfl) ?_
  refine SimI.done (by kernel_rfl) ?_
  refine SimE.thenN ?_
  refine Sim.seq ?_
  refine Sim.region0 ?_
  refine SimI.run 4 [(8, .one (lb (decide ((0 : Int) ≤ a0.ID)))), (7, .one (lb (decide ((0 : Int) ≤ a0.ID)))), (6, .one (li .i64 a0.ID)), (5, .one (.ptr 1 0))] [] (by kernel_rfl) ?_
  refine SimI.split 8 (decide ((0 : Int) ≤ a0.ID)) (by kernel_rfl) ?_ ?_
  · refine SimI.run 5 [(13, .one (lb (decide (a0.ID ≤ 1000000)))), (12, .one (lb (decide (a0.ID ≤ 1000000)))), (11, .one (lb (decide (a0.ID ≤ 1000000)))), (10, .one (li .i64 a0.ID)), (9, .one (.ptr 1 0))] [] (by kernel_rfl) ?_
    refine SimI.split 13 (decide (a0.ID ≤ 1000000)) (by kernel_rfl) ?_ ?_
    · refine SimI.run 2 [(15, .agg [li .i64 a0.At.X, li .i64 a0.At.Y]), (14, .one (.ptr 1 1))] [] (by kernel_rfl) ?_
      refine SimI.bind (og := F58 n a0.At) { dst := some 16, op := POp.call true [[]] 58 [Operand.tmp 15], guard := some (13, true), hints := [] } (fun r1 => [(16, .one (lb r1))]) (fun r1 => []) (by kernel_rfl) (fun r1 hr => pOp_eff (by kernel_rfl) (by kernel_rfl) (eff_call (ARGS := [.agg [li .i64 a0.At.X, li .i64 a0.At.Y]]) (by kernel_rfl) (args_clean (by kernel_rfl) args_nil) (F58_ok n a0.At r1 hr) (by kernel_rfl))) (fun r1 => ?_)
      refine SimI.run 2 [(3, .one (lb r1)), (17, .one (lb r1))] [] (by kernel_rfl) ?_
      refine SimI.done (by kernel_rfl) ?_
      refine SimE.thenN ?_
      refine Sim.pre (ts := [1, 3]) (os := [1]) (ow := []) [(1, .one (.ptr 1 0)), (3, .one (lb r1))] [(1, some (.cells (Thing.cells a0)))] (by kernel_rfl) (by kernel_rfl) (by kernel_rfl) ?_
      exact F18_j3_ok n a0 r1
    · refine SimI.run 5 [(3, .one (lb false)), (17, .one (lb false)), (16, .tup []), (15, .tup []), (14, .tup [])] [] (by kernel_rfl) ?_
      refine SimI.done (by kernel_rfl) ?_
      refine SimE.thenN ?_
      refine Sim.pre (ts := [1, 3]) (os := [1]) (ow := []) [(1, .one (.ptr 1 0)), (3, .one (lb false))] [(1, some (.cells (Thing.cells a0)))] (by kernel_rfl) (by kernel_rfl) (by kernel_rfl) ?_
      exact F18_j3_ok n a0 false
  · refine SimI.run 10 [(3, .one (lb false)), (17, .one (lb false)), (16, .tup []), (15, .tup []), (14, .tup []), (13, .one (lb false)), (12, .one (lb false)), (11, .tup []), (10, .tup []), (9, .tup [])] [] (by kernel_rfl) ?_
    refine SimI.done (by kernel_rfl) ?_
    refine SimE.thenN ?_
    refine Sim.pre (ts := [1, 3]) (os := [1]) (ow := []) [(1, .one (.ptr 1 0)), (3, .one (lb false))] [(1, some (.cells (Thing.cells a0)))] (by kernel_rfl) (by kernel_rfl) (by kernel_rfl) ?_
    exact F18_j3_ok n a0 false


-- 60: vedette/vedetteref1.Put
def F60_e : ByteArray → PV × List Ob := fun r => (.one (ls r), [])
def F60_l7 (n : Nat) : Nat → Int → ByteArray → Option ByteArray
  | 0, _, _ => none
  | m + 1, i5, s6 =>
    if decide (i5 < 128) then
      if s6.size + (mkStr [IntKind.wrap .u8 i5]).size ≤ 9223372036854775807 then
        some (s6 ++ (mkStr [IntKind.wrap .u8 i5]))
      else none
    else
      if s6.size + (mkStr [bitsI .or .u8 (IntKind.wrap .u8 (bitsI .and .u64 i5 127)) 128]).size ≤ 9223372036854775807 then
        (F60_l7 n m) (shrI .u64 i5 7) (s6 ++ (mkStr [bitsI .or .u8 (IntKind.wrap .u8 (bitsI .and .u64 i5 127)) 128]))
      else none
theorem F60_l7_ok (n : Nat) : ∀ (m : Nat) (i5 : Int) (s6 : ByteArray), SimL Try.prog D (n + 8) m pc60_c14 [(0, .one (li .u64 i5)), (3, .one (ls s6))] [] (F60_l7 n m i5 s6) (QB 0 (QF false pc60_r 0 F60_e)) := by
  intro m_l7
  induction m_l7 with
  | zero => intro i5 s6; exact SimL.zero'  rfl
  | succ m_l7 ih_l7 =>
    intro i5 s6
    refine SimL.succ ?_
    unfold F60_l7
    refine Sim.block ?_
    refine Sim.seq ?_
    refine Sim.seq ?_
    refine Sim.region [(0, .one (li .u64 i5)), (3, .one (ls s6))] [] (by kernel_rfl) ?_
    refine SimI.run 2 [(5, .one (lb (decide (i5 < 128)))), (4, .one (li .u64 i5))] [] (by kernel_rfl) ?_
    refine SimI.done (by kernel_rfl) ?_
    refine SimE.thenN ?_
    refine Sim.cond (decide (i5 < 128)) (by kernel_rfl) ?_ ?_
    · refine Sim.seq ?_
      refine Sim.region0 ?_
      refine SimI.run 4 [(9, .one (vw (codI .u8) [IntKind.wrap .u8 i5])), (8, .one (li .u8 (IntKind.wrap .u8 i5))), (7, .one (li .u64 i5)), (6, .one (ls s6))] [] (by kernel_rfl) ?_
      refine SimI.step { dst := some 10, op := POp.b2s (Operand.tmp 9), guard := none, hints := [] } [(10, .one (ls (mkStr [IntKind.wrap .u8 i5])))] [] (by kernel_rfl) (pOp_eff (by kernel_rfl) (by kernel_rfl) (eff_b2s (l := [IntKind.wrap .u8 i5]) (by kernel_rfl))) ?_
      refine SimI.guard (c := s6.size + (mkStr [IntKind.wrap .u8 i5]).size ≤ 9223372036854775807) { dst := some 11, op := POp.prim (Prim.bin BinOp.add 9 false false) [Operand.tmp 6, Operand.tmp 10], guard := none, hints := [] } [(11, .one (ls (s6 ++ (mkStr [IntKind.wrap .u8 i5]))))] [] (by kernel_rfl) (fun hc => pOp_eff (by kernel_rfl) (by kernel_rfl) (eff_prim (by kernel_rfl) (pr_addS _ _ _ s6 (mkStr [IntKind.wrap .u8 i5]) hc))) ?_
      refine SimI.run 1 [(2, .one (ls (s6 ++ (mkStr [IntKind.wrap .u8 i5]))))] [] (by kernel_rfl) ?_
      refine SimI.done (by kernel_rfl) ?_
      refine SimE.thenN ?_
      refine Sim.ret ?_
      refine SimE.thenR ?_
      refine SimE.blockR ?_
      refine SimE.loopR ?_
      refine SimE.blockR ?_
      exact SimE.fin (by kernel_rfl)
    · refine Sim.skip ?_
      refine SimE.thenN ?_
      refine Sim.seq ?_
      refine Sim.region0 ?_
      refine SimI.run 6 [(17, .one (vw (codI .u8) [bitsI .or .u8 (IntKind.wrap .u8 (bitsI .and .u64 i5 127)) 128])), (16, .one (li .u8 (bitsI .or .u8 (IntKind.wrap .u8 (bitsI .and .u64 i5 127)) 128))), (15, .one (li .u8 (IntKind.wrap .u8 (bitsI .and .u64 i5 127)))), (14, .one (li .u64 (bitsI .and .u64 i5 127))), (13, .one (li .u64 i5)), (12, .one (ls s6))] [] (by kernel_rfl) ?_
      refine SimI.step { dst := some 18, op := POp.b2s (Operand.tmp 17), guard := none, hints := [] } [(18, .one (ls (mkStr [bitsI .or .u8 (IntKind.wrap .u8 (bitsI .and .u64 i5 127)) 128])))] [] (by kernel_rfl) (pOp_eff (by kernel_rfl) (by kernel_rfl) (eff_b2s (l := [bitsI .or .u8 (IntKind.wrap .u8 (bitsI .and .u64 i5 127)) 128]) (by kernel_rfl))) ?_
      refine SimI.guard (c := s6.size + (mkStr [bitsI .or .u8 (IntKind.wrap .u8 (bitsI .and .u64 i5 127)) 128]).size ≤ 9223372036854775807) { dst := some 19, op := POp.prim (Prim.bin BinOp.add 9 false false) [Operand.tmp 12, Operand.tmp 18], guard := none, hints := [] } [(19, .one (ls (s6 ++ (mkStr [bitsI .or .u8 (IntKind.wrap .u8 (bitsI .and .u64 i5 127)) 128]))))] [] (by kernel_rfl) (fun hc => pOp_eff (by kernel_rfl) (by kernel_rfl) (eff_prim (by kernel_rfl) (pr_addS _ _ _ s6 (mkStr [bitsI .or .u8 (IntKind.wrap .u8 (bitsI .and .u64 i5 127)) 128]) hc))) ?_
      refine SimI.run 1 [(3, .one (ls (s6 ++ (mkStr [bitsI .or .u8 (IntKind.wrap .u8 (bitsI .and .u64 i5 127)) 128]))))] [] (by kernel_rfl) ?_
      refine SimI.done (by kernel_rfl) ?_
      refine SimE.thenN ?_
      refine Sim.region0 ?_
      refine SimI.run 3 [(0, .one (li .u64 (shrI .u64 i5 7))), (21, .one (li .u64 (shrI .u64 i5 7))), (20, .one (li .u64 i5))] [] (by kernel_rfl) ?_
      refine SimI.done (by kernel_rfl) ?_
      refine SimE.blockN ?_
      refine SimE.loopN ?_
      refine SimL.pre (ts := [0, 3]) (os := []) (ow := []) [(0, .one (li .u64 (shrI .u64 i5 7))), (3, .one (ls (s6 ++ (mkStr [bitsI .or .u8 (IntKind.wrap .u8 (bitsI .and .u64 i5 127)) 128]))))] [] (by kernel_rfl) (by kernel_rfl) (by kernel_rfl) ?_
      exact ih_l7 (shrI .u64 i5 7) (s6 ++ (mkStr [bitsI .or .u8 (IntKind.wrap .u8 (bitsI .and .u64 i5 127)) 128]))

def F60 (n : Nat) (a0 : Int) : Option ByteArray :=
  F60_l7 n (n + 8) a0 ByteArray.empty
theorem F60_ok (n : Nat) (a0 : Int) : ∀ r, F60 n a0 = some r → D 60 [.one (li .u64 a0)] [] = some (F60_e r) := by
  refine fn_to (D := D) (n := n + 8) (nt := 22) (rs := pc60_r) (c := pc60_c18) (L := [(0, .one (li .u64 a0))]) (M := []) (k := 0) rfl rfl rfl rfl rfl rfl rfl ?_
  unfold F60
  refine Sim.seq ?_
  refine Sim.region0 ?_
  refine SimI.run 1 [(2, .one (ls ByteArray.empty))] [] (by kernel_rfl) ?_
  refine SimI.done (by kernel_rfl) ?_
  refine SimE.thenN ?_
  refine Sim.seq ?_
  refine Sim.region0 ?_
  refine SimI.run 1 [(3, .one (ls ByteArray.empty))] [] (by kernel_rfl) ?_
  refine SimI.done (by kernel_rfl) ?_
  refine SimE.thenN ?_
  refine Sim.block ?_
  refine Sim.loop ?_
  refine SimL.pre (ts := [0, 3]) (os := []) (ow := []) [(0, .one (li .u64 a0)), (3, .one (ls ByteArray.empty))] [] (by kernel_rfl) (by kernel_rfl) (by kernel_rfl) ?_
  exact F60_l7_ok n (n + 8) a0 ByteArray.empty


-- 61: vedette/vedetteref1.Text
def F61_e : ByteArray → PV × List Ob := fun r => (.one (ls r), [])
def F61 (n : Nat) (a0 : ByteArray) : Option ByteArray :=
  (F60 n (IntKind.wrap .u64 (a0.size : Int))).bind fun (r1 : ByteArray) =>
  if r1.size + a0.size ≤ 9223372036854775807 then
    some (r1 ++ a0)
  else none
theorem F61_ok (n : Nat) (a0 : ByteArray) : ∀ r, F61 n a0 = some r → D 61 [.one (ls a0)] [] = some (F61_e r) := by
  refine fn_to (D := D) (n := n + 8) (nt := 9) (rs := pc61_r) (c := pc61_c5) (L := [(0, .one (ls a0))]) (M := []) (k := 0) rfl rfl rfl rfl rfl rfl rfl ?_
  unfold F61
  refine Sim.seq ?_
  refine Sim.region0 ?_
  refine SimI.run 1 [(2, .one (ls ByteArray.empty))] [] (by kernel_rfl) ?_
  refine SimI.done (by kernel_rfl) ?_
  refine SimE.thenN ?_
  refine Sim.seq ?_
  refine Sim.region0 ?_
  refine SimI.run 3 [(5, .one (li .u64 (IntKind.wrap .u64 (a0.size : Int)))), (4, .one (li .i64 (a0.size : Int))), (3, .one (ls a0))] [] (by kernel_rfl) ?_
  refine SimI.bind (og := F60 n (IntKind.wrap .u64 (a0.size : Int))) { dst := some 6, op := POp.call true [[]] 60 [Operand.tmp 5], guard := none, hints := [] } (fun r1 => [(6, .one (ls r1))]) (fun r1 => []) (by kernel_rfl) (fun r1 hr => pOp_eff (by kernel_rfl) (by kernel_rfl) (eff_call (ARGS := [.one (li .u64 (IntKind.wrap .u64 (a0.size : Int)))]) (by kernel_rfl) (args_clean (by kernel_rfl) args_nil) (F60_ok n (IntKind.wrap .u64 (a0.size : Int)) r1 hr) (by kernel_rfl))) (fun r1 => ?_)
  refine SimI.run 1 [(7, .one (ls a0))] [] (by kernel_rfl) ?_
  refine SimI.guard (c := r1.size + a0.size ≤ 9223372036854775807) { dst := some 8, op := POp.prim (Prim.bin BinOp.add 9 false false) [Operand.tmp 6, Operand.tmp 7], guard := none, hints := [] } [(8, .one (ls (r1 ++ a0)))] [] (by kernel_rfl) (fun hc => pOp_eff (by kernel_rfl) (by kernel_rfl) (eff_prim (by kernel_rfl) (pr_addS _ _ _ r1 a0 hc))) ?_
  refine SimI.run 1 [(2, .one (ls (r1 ++ a0)))] [] (by kernel_rfl) ?_
  refine SimI.done (by kernel_rfl) ?_
  refine SimE.thenN ?_
  refine Sim.ret ?_
  exact SimE.fin (by kernel_rfl)


-- 98: vedette/vedetteref1.Zig
def F98_e : Int → PV × List Ob := fun r => (.one (li .u64 r), [])
def F98 (n : Nat) (a0 : Int) : Option Int :=
  some (bitsI .xor .u64 (shlI .u64 (IntKind.wrap .u64 a0) 1) (IntKind.wrap .u64 (shrI .i64 a0 63)))
theorem F98_ok (n : Nat) (a0 : Int) : ∀ r, F98 n a0 = some r → D 98 [.one (li .i64 a0)] [] = some (F98_e r) := by
  refine fn_to (D := D) (n := n + 8) (nt := 10) (rs := pc98_r) (c := pc98_c5) (L := [(0, .one (li .i64 a0))]) (M := []) (k := 0) rfl rfl rfl rfl rfl rfl rfl ?_
  unfold F98
  refine Sim.seq ?_
  refine Sim.region0 ?_
  refine SimI.run 1 [(2, .one (li .u64 0))] [] (by kernel_rfl) ?_
  refine SimI.done (by kernel_rfl) ?_
  refine SimE.thenN ?_
  refine Sim.seq ?_
  refine Sim.region0 ?_
  refine SimI.run 8 [(2, .one (li .u64 (bitsI .xor .u64 (shlI .u64 (IntKind.wrap .u64 a0) 1) (IntKind.wrap .u64 (shrI .i64 a0 63))))), (9, .one (li .u64 (bitsI .xor .u64 (shlI .u64 (IntKind.wrap .u64 a0) 1) (IntKind.wrap .u64 (shrI .i64 a0 63))))), (8, .one (li .u64 (IntKind.wrap .u64 (shrI .i64 a0 63)))), (7, .one (li .i64 (shrI .i64 a0 63))), (6, .one (li .i64 a0)), (5, .one (li .u64 (shlI .u64 (IntKind.wrap .u64 a0) 1))), (4, .one (li .u64 (IntKind.wrap .u64 a0))), (3, .one (li .i64 a0))] [] (by kernel_rfl) ?_
  refine SimI.done (by kernel_rfl) ?_
  refine SimE.thenN ?_
  refine Sim.ret ?_
  exact SimE.fin (by kernel_rfl)


-- 62: vedette/vedetteref1.Int
def F62_e : ByteArray → PV × List Ob := fun r => (.one (ls r), [])
def F62 (n : Nat) (a0 : Int) : Option ByteArray :=
  (F98 n a0).bind fun (r1 : Int) =>
  (F60 n r1).bind fun (r2 : ByteArray) =>
  some r2
theorem F62_ok (n : Nat) (a0 : Int) : ∀ r, F62 n a0 = some r → D 62 [.one (li .i64 a0)] [] = some (F62_e r) := by
  refine fn_to (D := D) (n := n + 8) (nt := 6) (rs := pc62_r) (c := pc62_c5) (L := [(0, .one (li .i64 a0))]) (M := []) (k := 0) rfl rfl rfl rfl rfl rfl rfl ?_
  unfold F62
  refine Sim.seq ?_
  refine Sim.region0 ?_
  refine SimI.run 1 [(2, .one (ls ByteArray.empty))] [] (by kernel_rfl) ?_
  refine SimI.done (by kernel_rfl) ?_
  refine SimE.thenN ?_
  refine Sim.seq ?_
  refine Sim.region0 ?_
  refine SimI.run 1 [(3, .one (li .i64 a0))] [] (by kernel_rfl) ?_
  refine SimI.bind (og := F98 n a0) { dst := some 4, op := POp.call true [[]] 98 [Operand.tmp 3], guard := none, hints := [] } (fun r1 => [(4, .one (li .u64 r1))]) (fun r1 => []) (by kernel_rfl) (fun r1 hr => pOp_eff (by kernel_rfl) (by kernel_rfl) (eff_call (ARGS := [.one (li .i64 a0)]) (by kernel_rfl) (args_clean (by kernel_rfl) args_nil) (F98_ok n a0 r1 hr) (by kernel_rfl))) (fun r1 => ?_)
  refine SimI.bind (og := F60 n r1) { dst := some 5, op := POp.call true [[]] 60 [Operand.tmp 4], guard := none, hints := [] } (fun r2 => [(5, .one (ls r2))]) (fun r2 => []) (by kernel_rfl) (fun r2 hr => pOp_eff (by kernel_rfl) (by kernel_rfl) (eff_call (ARGS := [.one (li .u64 r1)]) (by kernel_rfl) (args_clean (by kernel_rfl) args_nil) (F60_ok n r1 r2 hr) (by kernel_rfl))) (fun r2 => ?_)
  refine SimI.run 1 [(2, .one (ls r2))] [] (by kernel_rfl) ?_
  refine SimI.done (by kernel_rfl) ?_
  refine SimE.thenN ?_
  refine Sim.ret ?_
  exact SimE.fin (by kernel_rfl)


-- 19: vedette/vedetteref6.Bytes
def F19_e : ByteArray → PV × List Ob := fun r => (.one (ls r), [])
def F19_u22 (n : Nat) (s21 : ByteArray) : Option ByteArray :=
    some s21
theorem F19_u22_ok (n : Nat) (a0 : Delta) (s21 : ByteArray) : SimL Try.prog D (n + 8) (n + 4) pc19_c28 [(1, .one (.ptr 1 0)), (3, .one (ls s21)), (4, .one (li .i64 4))] [(1, some (.cells (Delta.cells a0)))] (F19_u22 n s21) (QB 0 (QT Try.prog D (n + 8) pc19_c34 (QF false pc19_r 0 F19_e))) := by
    unfold F19_u22
    refine SimL.succ ?_
    refine Sim.seq ?_
    refine Sim.seq ?_
    refine Sim.region [(1, .one (.ptr 1 0)), (3, .one (ls s21)), (4, .one (li .i64 4))] [(1, some (.cells (Delta.cells a0)))] (by kernel_rfl) ?_
    refine SimI.run 2 [(32, .one (lb false)), (31, .one (li .i64 4))] [] (by kernel_rfl) ?_
    refine SimI.done (by kernel_rfl) ?_
    refine SimE.thenN ?_
    refine Sim.condF (by kernel_rfl) ?_
    refine Sim.exit ?_
    refine SimE.thenX ?_
    refine SimE.loopX ?_
    refine SimE.blockX ?_
    refine SimE.thenN ?_
    refine Sim.seq ?_
    refine Sim.region0 ?_
    refine SimI.run 2 [(2, .one (ls s21)), (65, .one (ls s21))] [] (by kernel_rfl) ?_
    refine SimI.done (by kernel_rfl) ?_
    refine SimE.thenN ?_
    refine Sim.ret ?_
    exact SimE.fin (by kernel_rfl)

def F19_u18 (n : Nat) (a0 : Delta) (s17 : ByteArray) : Option ByteArray :=
    if (bitsI .and .u8 (shrI .u8 a0.Mask 4) 1) != 0 then
      (F61 n a0.F.a3.Text).bind fun (r19 : ByteArray) =>
      if s17.size + r19.size ≤ 9223372036854775807 then
        if a0.F.a3.Text.toList == ByteArray.empty.toList then
          (F62 n a0.F.a3.N).bind fun (r20 : ByteArray) =>
          if (s17 ++ r19).size + r20.size ≤ 9223372036854775807 then
            F19_u22 n ((s17 ++ r19) ++ r20)
          else none
        else
          F19_u22 n (s17 ++ r19)
      else none
    else
      F19_u22 n s17
theorem F19_u18_ok (n : Nat) (a0 : Delta) (s17 : ByteArray) : SimL Try.prog D (n + 8) (n + 5) pc19_c28 [(1, .one (.ptr 1 0)), (3, .one (ls s17)), (4, .one (li .i64 3))] [(1, some (.cells (Delta.cells a0)))] (F19_u18 n a0 s17) (QB 0 (QT Try.prog D (n + 8) pc19_c34 (QF false pc19_r 0 F19_e))) := by
    unfold F19_u18
    refine SimL.succ ?_
    refine Sim.seq ?_
    refine Sim.seq ?_
    refine Sim.region [(1, .one (.ptr 1 0)), (3, .one (ls s17)), (4, .one (li .i64 3))] [(1, some (.cells (Delta.cells a0)))] (by kernel_rfl) ?_
    refine SimI.run 2 [(32, .one (lb true)), (31, .one (li .i64 3))] [] (by kernel_rfl) ?_
    refine SimI.done (by kernel_rfl) ?_
    refine SimE.thenN ?_
    refine Sim.condT (by kernel_rfl) ?_
    refine Sim.skip ?_
    refine SimE.thenN ?_
    refine Sim.seq ?_
    refine Sim.block ?_
    refine Sim.seq ?_
    refine Sim.region0 ?_
    refine SimI.run 8 [(42, .one (lb ((bitsI .and .u8 (shrI .u8 a0.Mask 4) 1) != 0))), (41, .one (li .u8 (bitsI .and .u8 (shrI .u8 a0.Mask 4) 1))), (40, .one (li .u8 (shrI .u8 a0.Mask 4))), (39, .one (li .u64 4)), (38, .one (li .i64 4)), (37, .one (li .i64 3)), (36, .one (li .u8 a0.Mask)), (35, .one (.ptr 1 1))] [] (by kernel_rfl) ?_
    refine SimI.done (by kernel_rfl) ?_
    refine SimE.thenN ?_
    refine Sim.cond ((bitsI .and .u8 (shrI .u8 a0.Mask 4) 1) != 0) (by kernel_rfl) ?_ ?_
    · refine Sim.seq ?_
      refine Sim.region0 ?_
      refine SimI.run 6 [(48, .one (ls a0.F.a3.Text)), (47, .one (.ptr 1 11)), (46, .one (.ptr 1 10)), (45, .one (.ptr 1 4)), (44, .one (li .i64 3)), (43, .one (ls s17))] [] (by kernel_rfl) ?_
      refine SimI.bind (og := F61 n a0.F.a3.Text) { dst := some 49, op := POp.call true [[]] 61 [Operand.tmp 48], guard := none, hints := [] } (fun r19 => [(49, .one (ls r19))]) (fun r19 => []) (by kernel_rfl) (fun r19 hr => pOp_eff (by kernel_rfl) (by kernel_rfl) (eff_call (ARGS := [.one (ls a0.F.a3.Text)]) (by kernel_rfl) (args_clean (by kernel_rfl) args_nil) (F61_ok n a0.F.a3.Text r19 hr) (by kernel_rfl))) (fun r19 => ?_)
      refine SimI.guard (c := s17.size + r19.size ≤ 9223372036854775807) { dst := some 50, op := POp.prim (Prim.bin BinOp.add 9 false false) [Operand.tmp 43, Operand.tmp 49], guard := none, hints := [] } [(50, .one (ls (s17 ++ r19)))] [] (by kernel_rfl) (fun hc => pOp_eff (by kernel_rfl) (by kernel_rfl) (eff_prim (by kernel_rfl) (pr_addS _ _ _ s17 r19 hc))) ?_
      refine SimI.run 1 [(3, .one (ls (s17 ++ r19)))] [] (by kernel_rfl) ?_
      refine SimI.done (by kernel_rfl) ?_
      refine SimE.thenN ?_
      refine Sim.seq ?_
      refine Sim.region0 ?_
      refine SimI.run 6 [(56, .one (lb (a0.F.a3.Text.toList == ByteArray.empty.toList))), (55, .one (ls a0.F.a3.Text)), (54, .one (.ptr 1 11)), (53, .one (.ptr 1 10)), (52, .one (.ptr 1 4)), (51, .one (li .i64 3))] [] (by kernel_rfl) ?_
      refine SimI.done (by kernel_rfl) ?_
      refine SimE.thenN ?_
      refine Sim.cond (a0.F.a3.Text.toList == ByteArray.empty.toList) (by kernel_rfl) ?_ ?_
      · refine Sim.region0 ?_
        refine SimI.run 6 [(62, .one (li .i64 a0.F.a3.N)), (61, .one (.ptr 1 10)), (60, .one (.ptr 1 10)), (59, .one (.ptr 1 4)), (58, .one (li .i64 3)), (57, .one (ls (s17 ++ r19)))] [] (by kernel_rfl) ?_
        refine SimI.bind (og := F62 n a0.F.a3.N) { dst := some 63, op := POp.call true [[]] 62 [Operand.tmp 62], guard := none, hints := [] } (fun r20 => [(63, .one (ls r20))]) (fun r20 => []) (by kernel_rfl) (fun r20 hr => pOp_eff (by kernel_rfl) (by kernel_rfl) (eff_call (ARGS := [.one (li .i64 a0.F.a3.N)]) (by kernel_rfl) (args_clean (by kernel_rfl) args_nil) (F62_ok n a0.F.a3.N r20 hr) (by kernel_rfl))) (fun r20 => ?_)
        refine SimI.guard (c := (s17 ++ r19).size + r20.size ≤ 9223372036854775807) { dst := some 64, op := POp.prim (Prim.bin BinOp.add 9 false false) [Operand.tmp 57, Operand.tmp 63], guard := none, hints := [] } [(64, .one (ls ((s17 ++ r19) ++ r20)))] [] (by kernel_rfl) (fun hc => pOp_eff (by kernel_rfl) (by kernel_rfl) (eff_prim (by kernel_rfl) (pr_addS _ _ _ (s17 ++ r19) r20 hc))) ?_
        refine SimI.run 1 [(3, .one (ls ((s17 ++ r19) ++ r20)))] [] (by kernel_rfl) ?_
        refine SimI.done (by kernel_rfl) ?_
        refine SimE.blockN ?_
        refine SimE.thenN ?_
        refine Sim.region0 ?_
        refine SimI.run 3 [(4, .one (li .i64 4)), (34, .one (li .i64 4)), (33, .one (li .i64 3))] [] (by kernel_rfl) ?_
        refine SimI.done (by kernel_rfl) ?_
        refine SimE.loopN ?_
        refine SimL.pre (ts := [1, 3, 4]) (os := [1]) (ow := []) [(1, .one (.ptr 1 0)), (3, .one (ls ((s17 ++ r19) ++ r20))), (4, .one (li .i64 4))] [(1, some (.cells (Delta.cells a0)))] (by kernel_rfl) (by kernel_rfl) (by kernel_rfl) ?_
        exact F19_u22_ok n a0 ((s17 ++ r19) ++ r20)
      · refine Sim.skip ?_
        refine SimE.blockN ?_
        refine SimE.thenN ?_
        refine Sim.region0 ?_
        refine SimI.run 3 [(4, .one (li .i64 4)), (34, .one (li .i64 4)), (33, .one (li .i64 3))] [] (by kernel_rfl) ?_
        refine SimI.done (by kernel_rfl) ?_
        refine SimE.loopN ?_
        refine SimL.pre (ts := [1, 3, 4]) (os := [1]) (ow := []) [(1, .one (.ptr 1 0)), (3, .one (ls (s17 ++ r19))), (4, .one (li .i64 4))] [(1, some (.cells (Delta.cells a0)))] (by kernel_rfl) (by kernel_rfl) (by kernel_rfl) ?_
        exact F19_u22_ok n a0 (s17 ++ r19)
    · refine Sim.skip ?_
      refine SimE.blockN ?_
      refine SimE.thenN ?_
      refine Sim.region0 ?_
      refine SimI.run 3 [(4, .one (li .i64 4)), (34, .one (li .i64 4)), (33, .one (li .i64 3))] [] (by kernel_rfl) ?_
      refine SimI.done (by kernel_rfl) ?_
      refine SimE.loopN ?_
      refine SimL.pre (ts := [1, 3, 4]) (os := [1]) (ow := []) [(1, .one (.ptr 1 0)), (3, .one (ls s17)), (4, .one (li .i64 4))] [(1, some (.cells (Delta.cells a0)))] (by kernel_rfl) (by kernel_rfl) (by kernel_rfl) ?_
      exact F19_u22_ok n a0 s17

def F19_u14 (n : Nat) (a0 : Delta) (s13 : ByteArray) : Option ByteArray :=
    if (bitsI .and .u8 (shrI .u8 a0.Mask 3) 1) != 0 then
      (F61 n a0.F.a2.Text).bind fun (r15 : ByteArray) =>
      if s13.size + r15.size ≤ 9223372036854775807 then
        if a0.F.a2.Text.toList == ByteArray.empty.toList then
          (F62 n a0.F.a2.N).bind fun (r16 : ByteArray) =>
          if (s13 ++ r15).size + r16.size ≤ 9223372036854775807 then
            F19_u18 n a0 ((s13 ++ r15) ++ r16)
          else none
        else
          F19_u18 n a0 (s13 ++ r15)
      else none
    else
      F19_u18 n a0 s13
theorem F19_u14_ok (n : Nat) (a0 : Delta) (s13 : ByteArray) : SimL Try.prog D (n + 8) (n + 6) pc19_c28 [(1, .one (.ptr 1 0)), (3, .one (ls s13)), (4, .one (li .i64 2))] [(1, some (.cells (Delta.cells a0)))] (F19_u14 n a0 s13) (QB 0 (QT Try.prog D (n + 8) pc19_c34 (QF false pc19_r 0 F19_e))) := by
    unfold F19_u14
    refine SimL.succ ?_
    refine Sim.seq ?_
    refine Sim.seq ?_
    refine Sim.region [(1, .one (.ptr 1 0)), (3, .one (ls s13)), (4, .one (li .i64 2))] [(1, some (.cells (Delta.cells a0)))] (by kernel_rfl) ?_
    refine SimI.run 2 [(32, .one (lb true)), (31, .one (li .i64 2))] [] (by kernel_rfl) ?_
    refine SimI.done (by kernel_rfl) ?_
    refine SimE.thenN ?_
    refine Sim.condT (by kernel_rfl) ?_
    refine Sim.skip ?_
    refine SimE.thenN ?_
    refine Sim.seq ?_
    refine Sim.block ?_
    refine Sim.seq ?_
    refine Sim.region0 ?_
    refine SimI.run 8 [(42, .one (lb ((bitsI .and .u8 (shrI .u8 a0.Mask 3) 1) != 0))), (41, .one (li .u8 (bitsI .and .u8 (shrI .u8 a0.Mask 3) 1))), (40, .one (li .u8 (shrI .u8 a0.Mask 3))), (39, .one (li .u64 3)), (38, .one (li .i64 3)), (37, .one (li .i64 2)), (36, .one (li .u8 a0.Mask)), (35, .one (.ptr 1 1))] [] (by kernel_rfl) ?_
    refine SimI.done (by kernel_rfl) ?_
    refine SimE.thenN ?_
    refine Sim.cond ((bitsI .and .u8 (shrI .u8 a0.Mask 3) 1) != 0) (by kernel_rfl) ?_ ?_
    · refine Sim.seq ?_
      refine Sim.region0 ?_
      refine SimI.run 6 [(48, .one (ls a0.F.a2.Text)), (47, .one (.ptr 1 9)), (46, .one (.ptr 1 8)), (45, .one (.ptr 1 4)), (44, .one (li .i64 2)), (43, .one (ls s13))] [] (by kernel_rfl) ?_
      refine SimI.bind (og := F61 n a0.F.a2.Text) { dst := some 49, op := POp.call true [[]] 61 [Operand.tmp 48], guard := none, hints := [] } (fun r15 => [(49, .one (ls r15))]) (fun r15 => []) (by kernel_rfl) (fun r15 hr => pOp_eff (by kernel_rfl) (by kernel_rfl) (eff_call (ARGS := [.one (ls a0.F.a2.Text)]) (by kernel_rfl) (args_clean (by kernel_rfl) args_nil) (F61_ok n a0.F.a2.Text r15 hr) (by kernel_rfl))) (fun r15 => ?_)
      refine SimI.guard (c := s13.size + r15.size ≤ 9223372036854775807) { dst := some 50, op := POp.prim (Prim.bin BinOp.add 9 false false) [Operand.tmp 43, Operand.tmp 49], guard := none, hints := [] } [(50, .one (ls (s13 ++ r15)))] [] (by kernel_rfl) (fun hc => pOp_eff (by kernel_rfl) (by kernel_rfl) (eff_prim (by kernel_rfl) (pr_addS _ _ _ s13 r15 hc))) ?_
      refine SimI.run 1 [(3, .one (ls (s13 ++ r15)))] [] (by kernel_rfl) ?_
      refine SimI.done (by kernel_rfl) ?_
      refine SimE.thenN ?_
      refine Sim.seq ?_
      refine Sim.region0 ?_
      refine SimI.run 6 [(56, .one (lb (a0.F.a2.Text.toList == ByteArray.empty.toList))), (55, .one (ls a0.F.a2.Text)), (54, .one (.ptr 1 9)), (53, .one (.ptr 1 8)), (52, .one (.ptr 1 4)), (51, .one (li .i64 2))] [] (by kernel_rfl) ?_
      refine SimI.done (by kernel_rfl) ?_
      refine SimE.thenN ?_
      refine Sim.cond (a0.F.a2.Text.toList == ByteArray.empty.toList) (by kernel_rfl) ?_ ?_
      · refine Sim.region0 ?_
        refine SimI.run 6 [(62, .one (li .i64 a0.F.a2.N)), (61, .one (.ptr 1 8)), (60, .one (.ptr 1 8)), (59, .one (.ptr 1 4)), (58, .one (li .i64 2)), (57, .one (ls (s13 ++ r15)))] [] (by kernel_rfl) ?_
        refine SimI.bind (og := F62 n a0.F.a2.N) { dst := some 63, op := POp.call true [[]] 62 [Operand.tmp 62], guard := none, hints := [] } (fun r16 => [(63, .one (ls r16))]) (fun r16 => []) (by kernel_rfl) (fun r16 hr => pOp_eff (by kernel_rfl) (by kernel_rfl) (eff_call (ARGS := [.one (li .i64 a0.F.a2.N)]) (by kernel_rfl) (args_clean (by kernel_rfl) args_nil) (F62_ok n a0.F.a2.N r16 hr) (by kernel_rfl))) (fun r16 => ?_)
        refine SimI.guard (c := (s13 ++ r15).size + r16.size ≤ 9223372036854775807) { dst := some 64, op := POp.prim (Prim.bin BinOp.add 9 false false) [Operand.tmp 57, Operand.tmp 63], guard := none, hints := [] } [(64, .one (ls ((s13 ++ r15) ++ r16)))] [] (by kernel_rfl) (fun hc => pOp_eff (by kernel_rfl) (by kernel_rfl) (eff_prim (by kernel_rfl) (pr_addS _ _ _ (s13 ++ r15) r16 hc))) ?_
        refine SimI.run 1 [(3, .one (ls ((s13 ++ r15) ++ r16)))] [] (by kernel_rfl) ?_
        refine SimI.done (by kernel_rfl) ?_
        refine SimE.blockN ?_
        refine SimE.thenN ?_
        refine Sim.region0 ?_
        refine SimI.run 3 [(4, .one (li .i64 3)), (34, .one (li .i64 3)), (33, .one (li .i64 2))] [] (by kernel_rfl) ?_
        refine SimI.done (by kernel_rfl) ?_
        refine SimE.loopN ?_
        refine SimL.pre (ts := [1, 3, 4]) (os := [1]) (ow := []) [(1, .one (.ptr 1 0)), (3, .one (ls ((s13 ++ r15) ++ r16))), (4, .one (li .i64 3))] [(1, some (.cells (Delta.cells a0)))] (by kernel_rfl) (by kernel_rfl) (by kernel_rfl) ?_
        exact F19_u18_ok n a0 ((s13 ++ r15) ++ r16)
      · refine Sim.skip ?_
        refine SimE.blockN ?_
        refine SimE.thenN ?_
        refine Sim.region0 ?_
        refine SimI.run 3 [(4, .one (li .i64 3)), (34, .one (li .i64 3)), (33, .one (li .i64 2))] [] (by kernel_rfl) ?_
        refine SimI.done (by kernel_rfl) ?_
        refine SimE.loopN ?_
        refine SimL.pre (ts := [1, 3, 4]) (os := [1]) (ow := []) [(1, .one (.ptr 1 0)), (3, .one (ls (s13 ++ r15))), (4, .one (li .i64 3))] [(1, some (.cells (Delta.cells a0)))] (by kernel_rfl) (by kernel_rfl) (by kernel_rfl) ?_
        exact F19_u18_ok n a0 (s13 ++ r15)
    · refine Sim.skip ?_
      refine SimE.blockN ?_
      refine SimE.thenN ?_
      refine Sim.region0 ?_
      refine SimI.run 3 [(4, .one (li .i64 3)), (34, .one (li .i64 3)), (33, .one (li .i64 2))] [] (by kernel_rfl) ?_
      refine SimI.done (by kernel_rfl) ?_
      refine SimE.loopN ?_
      refine SimL.pre (ts := [1, 3, 4]) (os := [1]) (ow := []) [(1, .one (.ptr 1 0)), (3, .one (ls s13)), (4, .one (li .i64 3))] [(1, some (.cells (Delta.cells a0)))] (by kernel_rfl) (by kernel_rfl) (by kernel_rfl) ?_
      exact F19_u18_ok n a0 s13

def F19_u10 (n : Nat) (a0 : Delta) (s9 : ByteArray) : Option ByteArray :=
    if (bitsI .and .u8 (shrI .u8 a0.Mask 2) 1) != 0 then
      (F61 n a0.F.a1.Text).bind fun (r11 : ByteArray) =>
      if s9.size + r11.size ≤ 9223372036854775807 then
        if a0.F.a1.Text.toList == ByteArray.empty.toList then
          (F62 n a0.F.a1.N).bind fun (r12 : ByteArray) =>
          if (s9 ++ r11).size + r12.size ≤ 9223372036854775807 then
            F19_u14 n a0 ((s9 ++ r11) ++ r12)
          else none
        else
          F19_u14 n a0 (s9 ++ r11)
      else none
    else
      F19_u14 n a0 s9
theorem F19_u10_ok (n : Nat) (a0 : Delta) (s9 : ByteArray) : SimL Try.prog D (n + 8) (n + 7) pc19_c28 [(1, .one (.ptr 1 0)), (3, .one (ls s9)), (4, .one (li .i64 1))] [(1, some (.cells (Delta.cells a0)))] (F19_u10 n a0 s9) (QB 0 (QT Try.prog D (n + 8) pc19_c34 (QF false pc19_r 0 F19_e))) := by
    unfold F19_u10
    refine SimL.succ ?_
    refine Sim.seq ?_
    refine Sim.seq ?_
    refine Sim.region [(1, .one (.ptr 1 0)), (3, .one (ls s9)), (4, .one (li .i64 1))] [(1, some (.cells (Delta.cells a0)))] (by kernel_rfl) ?_
    refine SimI.run 2 [(32, .one (lb true)), (31, .one (li .i64 1))] [] (by kernel_rfl) ?_
    refine SimI.done (by kernel_rfl) ?_
    refine SimE.thenN ?_
    refine Sim.condT (by kernel_rfl) ?_
    refine Sim.skip ?_
    refine SimE.thenN ?_
    refine Sim.seq ?_
    refine Sim.block ?_
    refine Sim.seq ?_
    refine Sim.region0 ?_
    refine SimI.run 8 [(42, .one (lb ((bitsI .and .u8 (shrI .u8 a0.Mask 2) 1) != 0))), (41, .one (li .u8 (bitsI .and .u8 (shrI .u8 a0.Mask 2) 1))), (40, .one (li .u8 (shrI .u8 a0.Mask 2))), (39, .one (li .u64 2)), (38, .one (li .i64 2)), (37, .one (li .i64 1)), (36, .one (li .u8 a0.Mask)), (35, .one (.ptr 1 1))] [] (by kernel_rfl) ?_
    refine SimI.done (by kernel_rfl) ?_
    refine SimE.thenN ?_
    refine Sim.cond ((bitsI .and .u8 (shrI .u8 a0.Mask 2) 1) != 0) (by kernel_rfl) ?_ ?_
    · refine Sim.seq ?_
      refine Sim.region0 ?_
      refine SimI.run 6 [(48, .one (ls a0.F.a1.Text)), (47, .one (.ptr 1 7)), (46, .one (.ptr 1 6)), (45, .one (.ptr 1 4)), (44, .one (li .i64 1)), (43, .one (ls s9))] [] (by kernel_rfl) ?_
      refine SimI.bind (og := F61 n a0.F.a1.Text) { dst := some 49, op := POp.call true [[]] 61 [Operand.tmp 48], guard := none, hints := [] } (fun r11 => [(49, .one (ls r11))]) (fun r11 => []) (by kernel_rfl) (fun r11 hr => pOp_eff (by kernel_rfl) (by kernel_rfl) (eff_call (ARGS := [.one (ls a0.F.a1.Text)]) (by kernel_rfl) (args_clean (by kernel_rfl) args_nil) (F61_ok n a0.F.a1.Text r11 hr) (by kernel_rfl))) (fun r11 => ?_)
      refine SimI.guard (c := s9.size + r11.size ≤ 9223372036854775807) { dst := some 50, op := POp.prim (Prim.bin BinOp.add 9 false false) [Operand.tmp 43, Operand.tmp 49], guard := none, hints := [] } [(50, .one (ls (s9 ++ r11)))] [] (by kernel_rfl) (fun hc => pOp_eff (by kernel_rfl) (by kernel_rfl) (eff_prim (by kernel_rfl) (pr_addS _ _ _ s9 r11 hc))) ?_
      refine SimI.run 1 [(3, .one (ls (s9 ++ r11)))] [] (by kernel_rfl) ?_
      refine SimI.done (by kernel_rfl) ?_
      refine SimE.thenN ?_
      refine Sim.seq ?_
      refine Sim.region0 ?_
      refine SimI.run 6 [(56, .one (lb (a0.F.a1.Text.toList == ByteArray.empty.toList))), (55, .one (ls a0.F.a1.Text)), (54, .one (.ptr 1 7)), (53, .one (.ptr 1 6)), (52, .one (.ptr 1 4)), (51, .one (li .i64 1))] [] (by kernel_rfl) ?_
      refine SimI.done (by kernel_rfl) ?_
      refine SimE.thenN ?_
      refine Sim.cond (a0.F.a1.Text.toList == ByteArray.empty.toList) (by kernel_rfl) ?_ ?_
      · refine Sim.region0 ?_
        refine SimI.run 6 [(62, .one (li .i64 a0.F.a1.N)), (61, .one (.ptr 1 6)), (60, .one (.ptr 1 6)), (59, .one (.ptr 1 4)), (58, .one (li .i64 1)), (57, .one (ls (s9 ++ r11)))] [] (by kernel_rfl) ?_
        refine SimI.bind (og := F62 n a0.F.a1.N) { dst := some 63, op := POp.call true [[]] 62 [Operand.tmp 62], guard := none, hints := [] } (fun r12 => [(63, .one (ls r12))]) (fun r12 => []) (by kernel_rfl) (fun r12 hr => pOp_eff (by kernel_rfl) (by kernel_rfl) (eff_call (ARGS := [.one (li .i64 a0.F.a1.N)]) (by kernel_rfl) (args_clean (by kernel_rfl) args_nil) (F62_ok n a0.F.a1.N r12 hr) (by kernel_rfl))) (fun r12 => ?_)
        refine SimI.guard (c := (s9 ++ r11).size + r12.size ≤ 9223372036854775807) { dst := some 64, op := POp.prim (Prim.bin BinOp.add 9 false false) [Operand.tmp 57, Operand.tmp 63], guard := none, hints := [] } [(64, .one (ls ((s9 ++ r11) ++ r12)))] [] (by kernel_rfl) (fun hc => pOp_eff (by kernel_rfl) (by kernel_rfl) (eff_prim (by kernel_rfl) (pr_addS _ _ _ (s9 ++ r11) r12 hc))) ?_
        refine SimI.run 1 [(3, .one (ls ((s9 ++ r11) ++ r12)))] [] (by kernel_rfl) ?_
        refine SimI.done (by kernel_rfl) ?_
        refine SimE.blockN ?_
        refine SimE.thenN ?_
        refine Sim.region0 ?_
        refine SimI.run 3 [(4, .one (li .i64 2)), (34, .one (li .i64 2)), (33, .one (li .i64 1))] [] (by kernel_rfl) ?_
        refine SimI.done (by kernel_rfl) ?_
        refine SimE.loopN ?_
        refine SimL.pre (ts := [1, 3, 4]) (os := [1]) (ow := []) [(1, .one (.ptr 1 0)), (3, .one (ls ((s9 ++ r11) ++ r12))), (4, .one (li .i64 2))] [(1, some (.cells (Delta.cells a0)))] (by kernel_rfl) (by kernel_rfl) (by kernel_rfl) ?_
        exact F19_u14_ok n a0 ((s9 ++ r11) ++ r12)
      · refine Sim.skip ?_
        refine SimE.blockN ?_
        refine SimE.thenN ?_
        refine Sim.region0 ?_
        refine SimI.run 3 [(4, .one (li .i64 2)), (34, .one (li .i64 2)), (33, .one (li .i64 1))] [] (by kernel_rfl) ?_
        refine SimI.done (by kernel_rfl) ?_
        refine SimE.loopN ?_
        refine SimL.pre (ts := [1, 3, 4]) (os := [1]) (ow := []) [(1, .one (.ptr 1 0)), (3, .one (ls (s9 ++ r11))), (4, .one (li .i64 2))] [(1, some (.cells (Delta.cells a0)))] (by kernel_rfl) (by kernel_rfl) (by kernel_rfl) ?_
        exact F19_u14_ok n a0 (s9 ++ r11)
    · refine Sim.skip ?_
      refine SimE.blockN ?_
      refine SimE.thenN ?_
      refine Sim.region0 ?_
      refine SimI.run 3 [(4, .one (li .i64 2)), (34, .one (li .i64 2)), (33, .one (li .i64 1))] [] (by kernel_rfl) ?_
      refine SimI.done (by kernel_rfl) ?_
      refine SimE.loopN ?_
      refine SimL.pre (ts := [1, 3, 4]) (os := [1]) (ow := []) [(1, .one (.ptr 1 0)), (3, .one (ls s9)), (4, .one (li .i64 2))] [(1, some (.cells (Delta.cells a0)))] (by kernel_rfl) (by kernel_rfl) (by kernel_rfl) ?_
      exact F19_u14_ok n a0 s9

def F19_j6 (n : Nat) (a0 : Delta) (s5 : ByteArray) : Option ByteArray :=
    if (bitsI .and .u8 (shrI .u8 a0.Mask 1) 1) != 0 then
      (F61 n a0.F.a0.Text).bind fun (r7 : ByteArray) =>
      if s5.size + r7.size ≤ 9223372036854775807 then
        if a0.F.a0.Text.toList == ByteArray.empty.toList then
          (F62 n a0.F.a0.N).bind fun (r8 : ByteArray) =>
          if (s5 ++ r7).size + r8.size ≤ 9223372036854775807 then
            F19_u10 n a0 ((s5 ++ r7) ++ r8)
          else none
        else
          F19_u10 n a0 (s5 ++ r7)
      else none
    else
      F19_u10 n a0 s5
theorem F19_j6_ok (n : Nat) (a0 : Delta) (s5 : ByteArray) : Sim Try.prog D (n + 8) pc19_c35 [(1, .one (.ptr 1 0)), (3, .one (ls s5))] [(1, some (.cells (Delta.cells a0)))] (F19_j6 n a0 s5) (QF false pc19_r 0 F19_e) := by
    unfold F19_j6
    refine Sim.seq ?_
    refine Sim.seq ?_
    refine Sim.region [(1, .one (.ptr 1 0)), (3, .one (ls s5))] [(1, some (.cells (Delta.cells a0)))] (by kernel_rfl) ?_
    refine SimI.run 1 [(4, .one (li .i64 0))] [] (by kernel_rfl) ?_
    refine SimI.done (by kernel_rfl) ?_
    refine SimE.thenN ?_
    refine Sim.block ?_
    refine Sim.loop ?_
    refine SimL.succ ?_
    refine Sim.seq ?_
    refine Sim.seq ?_
    refine Sim.region [(1, .one (.ptr 1 0)), (3, .one (ls s5)), (4, .one (li .i64 0))] [(1, some (.cells (Delta.cells a0)))] (by kernel_rfl) ?_
    refine SimI.run 2 [(32, .one (lb true)), (31, .one (li .i64 0))] [] (by kernel_rfl) ?_
    refine SimI.done (by kernel_rfl) ?_
    refine SimE.thenN ?_
    refine Sim.condT (by kernel_rfl) ?_
    refine Sim.skip ?_
    refine SimE.thenN ?_
    refine Sim.seq ?_
    refine Sim.block ?_
    refine Sim.seq ?_
    refine Sim.region0 ?_
    refine SimI.run 8 [(42, .one (lb ((bitsI .and .u8 (shrI .u8 a0.Mask 1) 1) != 0))), (41, .one (li .u8 (bitsI .and .u8 (shrI .u8 a0.Mask 1) 1))), (40, .one (li .u8 (shrI .u8 a0.Mask 1))), (39, .one (li .u64 1)), (38, .one (li .i64 1)), (37, .one (li .i64 0)), (36, .one (li .u8 a0.Mask)), (35, .one (.ptr 1 1))] [] (by kernel_rfl) ?_
    refine SimI.done (by kernel_rfl) ?_
    refine SimE.thenN ?_
    refine Sim.cond ((bitsI .and .u8 (shrI .u8 a0.Mask 1) 1) != 0) (by kernel_rfl) ?_ ?_
    · refine Sim.seq ?_
      refine Sim.region0 ?_
      refine SimI.run 6 [(48, .one (ls a0.F.a0.Text)), (47, .one (.ptr 1 5)), (46, .one (.ptr 1 4)), (45, .one (.ptr 1 4)), (44, .one (li .i64 0)), (43, .one (ls s5))] [] (by kernel_rfl) ?_
      refine SimI.bind (og := F61 n a0.F.a0.Text) { dst := some 49, op := POp.call true [[]] 61 [Operand.tmp 48], guard := none, hints := [] } (fun r7 => [(49, .one (ls r7))]) (fun r7 => []) (by kernel_rfl) (fun r7 hr => pOp_eff (by kernel_rfl) (by kernel_rfl) (eff_call (ARGS := [.one (ls a0.F.a0.Text)]) (by kernel_rfl) (args_clean (by kernel_rfl) args_nil) (F61_ok n a0.F.a0.Text r7 hr) (by kernel_rfl))) (fun r7 => ?_)
      refine SimI.guard (c := s5.size + r7.size ≤ 9223372036854775807) { dst := some 50, op := POp.prim (Prim.bin BinOp.add 9 false false) [Operand.tmp 43, Operand.tmp 49], guard := none, hints := [] } [(50, .one (ls (s5 ++ r7)))] [] (by kernel_rfl) (fun hc => pOp_eff (by kernel_rfl) (by kernel_rfl) (eff_prim (by kernel_rfl) (pr_addS _ _ _ s5 r7 hc))) ?_
      refine SimI.run 1 [(3, .one (ls (s5 ++ r7)))] [] (by kernel_rfl) ?_
      refine SimI.done (by kernel_rfl) ?_
      refine SimE.thenN ?_
      refine Sim.seq ?_
      refine Sim.region0 ?_
      refine SimI.run 6 [(56, .one (lb (a0.F.a0.Text.toList == ByteArray.empty.toList))), (55, .one (ls a0.F.a0.Text)), (54, .one (.ptr 1 5)), (53, .one (.ptr 1 4)), (52, .one (.ptr 1 4)), (51, .one (li .i64 0))] [] (by kernel_rfl) ?_
      refine SimI.done (by kernel_rfl) ?_
      refine SimE.thenN ?_
      refine Sim.cond (a0.F.a0.Text.toList == ByteArray.empty.toList) (by kernel_rfl) ?_ ?_
      · refine Sim.region0 ?_
        refine SimI.run 6 [(62, .one (li .i64 a0.F.a0.N)), (61, .one (.ptr 1 4)), (60, .one (.ptr 1 4)), (59, .one (.ptr 1 4)), (58, .one (li .i64 0)), (57, .one (ls (s5 ++ r7)))] [] (by kernel_rfl) ?_
        refine SimI.bind (og := F62 n a0.F.a0.N) { dst := some 63, op := POp.call true [[]] 62 [Operand.tmp 62], guard := none, hints := [] } (fun r8 => [(63, .one (ls r8))]) (fun r8 => []) (by kernel_rfl) (fun r8 hr => pOp_eff (by kernel_rfl) (by kernel_rfl) (eff_call (ARGS := [.one (li .i64 a0.F.a0.N)]) (by kernel_rfl) (args_clean (by kernel_rfl) args_nil) (F62_ok n a0.F.a0.N r8 hr) (by kernel_rfl))) (fun r8 => ?_)
        refine SimI.guard (c := (s5 ++ r7).size + r8.size ≤ 9223372036854775807) { dst := some 64, op := POp.prim (Prim.bin BinOp.add 9 false false) [Operand.tmp 57, Operand.tmp 63], guard := none, hints := [] } [(64, .one (ls ((s5 ++ r7) ++ r8)))] [] (by kernel_rfl) (fun hc => pOp_eff (by kernel_rfl) (by kernel_rfl) (eff_prim (by kernel_rfl) (pr_addS _ _ _ (s5 ++ r7) r8 hc))) ?_
        refine SimI.run 1 [(3, .one (ls ((s5 ++ r7) ++ r8)))] [] (by kernel_rfl) ?_
        refine SimI.done (by kernel_rfl) ?_
        refine SimE.blockN ?_
        refine SimE.thenN ?_
        refine Sim.region0 ?_
        refine SimI.run 3 [(4, .one (li .i64 1)), (34, .one (li .i64 1)), (33, .one (li .i64 0))] [] (by kernel_rfl) ?_
        refine SimI.done (by kernel_rfl) ?_
        refine SimE.loopN ?_
        refine SimL.pre (ts := [1, 3, 4]) (os := [1]) (ow := []) [(1, .one (.ptr 1 0)), (3, .one (ls ((s5 ++ r7) ++ r8))), (4, .one (li .i64 1))] [(1, some (.cells (Delta.cells a0)))] (by kernel_rfl) (by kernel_rfl) (by kernel_rfl) ?_
        exact F19_u10_ok n a0 ((s5 ++ r7) ++ r8)
      · refine Sim.skip ?_
        refine SimE.blockN ?_
        refine SimE.thenN ?_
        refine Sim.region0 ?_
        refine SimI.run 3 [(4, .one (li .i64 1)), (34, .one (li .i64 1)), (33, .one (li .i64 0))] [] (by kernel_rfl) ?_
        refine SimI.done (by kernel_rfl) ?_
        refine SimE.loopN ?_
        refine SimL.pre (ts := [1, 3, 4]) (os := [1]) (ow := []) [(1, .one (.ptr 1 0)), (3, .one (ls (s5 ++ r7))), (4, .one (li .i64 1))] [(1, some (.cells (Delta.cells a0)))] (by kernel_rfl) (by kernel_rfl) (by kernel_rfl) ?_
        exact F19_u10_ok n a0 (s5 ++ r7)
    · refine Sim.skip ?_
      refine SimE.blockN ?_
      refine SimE.thenN ?_
      refine Sim.region0 ?_
      refine SimI.run 3 [(4, .one (li .i64 1)), (34, .one (li .i64 1)), (33, .one (li .i64 0))] [] (by kernel_rfl) ?_
      refine SimI.done (by kernel_rfl) ?_
      refine SimE.loopN ?_
      refine SimL.pre (ts := [1, 3, 4]) (os := [1]) (ow := []) [(1, .one (.ptr 1 0)), (3, .one (ls s5)), (4, .one (li .i64 1))] [(1, some (.cells (Delta.cells a0)))] (by kernel_rfl) (by kernel_rfl) (by kernel_rfl) ?_
      exact F19_u10_ok n a0 s5

def F19 (n : Nat) (a0 : Delta) : Option ByteArray :=
  (F60 n (IntKind.wrap .u64 a0.ID)).bind fun (r1 : ByteArray) =>
  (F60 n (IntKind.wrap .u64 a0.Mask)).bind fun (r2 : ByteArray) =>
  if r1.size + r2.size ≤ 9223372036854775807 then
    if (bitsI .and .u8 a0.Mask 1) != 0 then
      (F60 n (IntKind.wrap .u64 a0.At.X)).bind fun (r3 : ByteArray) =>
      if (r1 ++ r2).size + r3.size ≤ 9223372036854775807 then
        (F60 n (IntKind.wrap .u64 a0.At.Y)).bind fun (r4 : ByteArray) =>
        if ((r1 ++ r2) ++ r3).size + r4.size ≤ 9223372036854775807 then
          F19_j6 n a0 (((r1 ++ r2) ++ r3) ++ r4)
        else none
      else none
    else
      F19_j6 n a0 (r1 ++ r2)
  else none
theorem F19_ok (n : Nat) (a0 : Delta) : ∀ r, F19 n a0 = some r → D 19 [.agg (Delta.cells a0)] [] = some (F19_e r) := by
  refine fn_to (D := D) (n := n + 8) (nt := 66) (rs := pc19_r) (c := pc19_c38) (L := [(0, .agg (Delta.cells a0))]) (M := []) (k := 0) rfl rfl rfl rfl rfl rfl rfl ?_
  unfold F19
  refine Sim.seq ?_
  refine Sim.region0 ?_
  refine SimI.run 2 [(2, .one (ls ByteArray.empty)), (1, .one (.ptr 1 0))] [(1, some (.cells (Delta.cells a0)))] (by kernel_rfl) ?_
  refine SimI.done (by kernel_rfl) ?_
  refine SimE.thenN ?_
  refine Sim.seq ?_
  refine Sim.region0 ?_
  refine SimI.run 3 [(7, .one (li .u64 (IntKind.wrap .u64 a0.ID))), (6, .one (li .i64 a0.ID)), (5, .one (.ptr 1 0))] [] (by kernel_rfl) ?_
  refine SimI.bind (og := F60 n (IntKind.wrap .u64 a0.ID)) { dst := some 8, op := POp.call false [[]] 60 [Operand.tmp 7], guard := none, hints := [(7, Hint.imm)] } (fun r1 => [(8, .one (ls r1))]) (fun r1 => []) (by kernel_rfl) (fun r1 hr => pOp_eff (by kernel_rfl) (by kernel_rfl) (eff_call (ARGS := [.one (li .u64 (IntKind.wrap .u64 a0.ID))]) (by kernel_rfl) (args_clean (by kernel_rfl) args_nil) (F60_ok n (IntKind.wrap .u64 a0.ID) r1 hr) (by kernel_rfl))) (fun r1 => ?_)
  refine SimI.run 3 [(11, .one (li .u64 (IntKind.wrap .u64 a0.Mask))), (10, .one (li .u8 a0.Mask)), (9, .one (.ptr 1 1))] [] (by kernel_rfl) ?_
  refine SimI.bind (og := F60 n (IntKind.wrap .u64 a0.Mask)) { dst := some 12, op := POp.call false [[]] 60 [Operand.tmp 11], guard := none, hints := [(11, Hint.imm)] } (fun r2 => [(12, .one (ls r2))]) (fun r2 => []) (by kernel_rfl) (fun r2 hr => pOp_eff (by kernel_rfl) (by kernel_rfl) (eff_call (ARGS := [.one (li .u64 (IntKind.wrap .u64 a0.Mask))]) (by kernel_rfl) (args_clean (by kernel_rfl) args_nil) (F60_ok n (IntKind.wrap .u64 a0.Mask) r2 hr) (by kernel_rfl))) (fun r2 => ?_)
  refine SimI.guard (c := r1.size + r2.size ≤ 9223372036854775807) { dst := some 13, op := POp.prim (Prim.bin BinOp.add 9 false false) [Operand.tmp 8, Operand.tmp 12], guard := none, hints := [(8, Hint.imm), (12, Hint.imm)] } [(13, .one (ls (r1 ++ r2)))] [] (by kernel_rfl) (fun hc => pOp_eff (by kernel_rfl) (by kernel_rfl) (eff_prim (by kernel_rfl) (pr_addS _ _ _ r1 r2 hc))) ?_
  refine SimI.run 1 [(3, .one (ls (r1 ++ r2)))] [] (by kernel_rfl) ?_
  refine SimI.done (by kernel_rfl) ?_
  refine SimE.thenN ?_
  refine Sim.seq ?_
  refine Sim.seq ?_
  refine Sim.region0 ?_
  refine SimI.run 4 [(17, .one (lb ((bitsI .and .u8 a0.Mask 1) != 0))), (16, .one (li .u8 (bitsI .and .u8 a0.Mask 1))), (15, .one (li .u8 a0.Mask)), (14, .one (.ptr 1 1))] [] (by kernel_rfl) ?_
  refine SimI.done (by kernel_rfl) ?_
  refine SimE.thenN ?_
  refine Sim.cond ((bitsI .and .u8 a0.Mask 1) != 0) (by kernel_rfl) ?_ ?_
  · refine Sim.region0 ?_
    refine SimI.run 5 [(22, .one (li .u64 (IntKind.wrap .u64 a0.At.X))), (21, .one (li .i64 a0.At.X)), (20, .one (.ptr 1 2)), (19, .one (.ptr 1 2)), (18, .one (ls (r1 ++ r2)))] [] (by kernel_rfl) ?_
    refine SimI.bind (og := F60 n (IntKind.wrap .u64 a0.At.X)) { dst := some 23, op := POp.call false [[]] 60 [Operand.tmp 22], guard := none, hints := [(22, Hint.imm)] } (fun r3 => [(23, .one (ls r3))]) (fun r3 => []) (by kernel_rfl) (fun r3 hr => pOp_eff (by kernel_rfl) (by kernel_rfl) (eff_call (ARGS := [.one (li .u64 (IntKind.wrap .u64 a0.At.X))]) (by kernel_rfl) (args_clean (by kernel_rfl) args_nil) (F60_ok n (IntKind.wrap .u64 a0.At.X) r3 hr) (by kernel_rfl))) (fun r3 => ?_)
    refine SimI.guard (c := (r1 ++ r2).size + r3.size ≤ 9223372036854775807) { dst := some 24, op := POp.prim (Prim.bin BinOp.add 9 false false) [Operand.tmp 18, Operand.tmp 23], guard := none, hints := [(18, Hint.imm), (23, Hint.imm)] } [(24, .one (ls ((r1 ++ r2) ++ r3)))] [] (by kernel_rfl) (fun hc => pOp_eff (by kernel_rfl) (by kernel_rfl) (eff_prim (by kernel_rfl) (pr_addS _ _ _ (r1 ++ r2) r3 hc))) ?_
    refine SimI.run 4 [(28, .one (li .u64 (IntKind.wrap .u64 a0.At.Y))), (27, .one (li .i64 a0.At.Y)), (26, .one (.ptr 1 3)), (25, .one (.ptr 1 2))] [] (by kernel_rfl) ?_
    refine SimI.bind (og := F60 n (IntKind.wrap .u64 a0.At.Y)) { dst := some 29, op := POp.call false [[]] 60 [Operand.tmp 28], guard := none, hints := [(28, Hint.imm)] } (fun r4 => [(29, .one (ls r4))]) (fun r4 => []) (by kernel_rfl) (fun r4 hr => pOp_eff (by kernel_rfl) (by kernel_rfl) (eff_call (ARGS := [.one (li .u64 (IntKind.wrap .u64 a0.At.Y))]) (by kernel_rfl) (args_clean (by kernel_rfl) args_nil) (F60_ok n (IntKind.wrap .u64 a0.At.Y) r4 hr) (by kernel_rfl))) (fun r4 => ?_)
    refine SimI.guard (c := ((r1 ++ r2) ++ r3).size + r4.size ≤ 9223372036854775807) { dst := some 30, op := POp.prim (Prim.bin BinOp.add 9 false false) [Operand.tmp 24, Operand.tmp 29], guard := none, hints := [(24, Hint.imm), (29, Hint.imm)] } [(30, .one (ls (((r1 ++ r2) ++ r3) ++ r4)))] [] (by kernel_rfl) (fun hc => pOp_eff (by kernel_rfl) (by kernel_rfl) (eff_prim (by kernel_rfl) (pr_addS _ _ _ ((r1 ++ r2) ++ r3) r4 hc))) ?_
    refine SimI.run 1 [(3, .one (ls (((r1 ++ r2) ++ r3) ++ r4)))] [] (by kernel_rfl) ?_
    refine SimI.done (by kernel_rfl) ?_
    refine SimE.thenN ?_
    refine Sim.pre (ts := [1, 3]) (os := [1]) (ow := []) [(1, .one (.ptr 1 0)), (3, .one (ls (((r1 ++ r2) ++ r3) ++ r4)))] [(1, some (.cells (Delta.cells a0)))] (by kernel_rfl) (by kernel_rfl) (by kernel_rfl) ?_
    exact F19_j6_ok n a0 (((r1 ++ r2) ++ r3) ++ r4)
  · refine Sim.skip ?_
    refine SimE.thenN ?_
    refine Sim.pre (ts := [1, 3]) (os := [1]) (ow := []) [(1, .one (.ptr 1 0)), (3, .one (ls (r1 ++ r2)))] [(1, some (.cells (Delta.cells a0)))] (by kernel_rfl) (by kernel_rfl) (by kernel_rfl) ?_
    exact F19_j6_ok n a0 (r1 ++ r2)


-- 20: vedette/vedetteref6.Full
def F20_e : Delta → PV × List Ob := fun r => (.agg (Delta.cells r), [])
def F20 (n : Nat) (a0 : Thing) : Option Delta :=
  some (Delta.mk a0.ID 31 a0.At a0.F)
theorem F20_ok (n : Nat) (a0 : Thing) : ∀ r, F20 n a0 = some r → D 20 [.agg (Thing.cells a0)] [] = some (F20_e r) := by
  refine fn_to (D := D) (n := n + 8) (nt := 10) (rs := pc20_r) (c := pc20_c5) (L := [(0, .agg (Thing.cells a0))]) (M := []) (k := 0) rfl rfl rfl rfl rfl rfl rfl ?_
  unfold F20
  refine Sim.seq ?_
  refine Sim.region0 ?_
  refine SimI.run 2 [(2, .one (.ptr 2 0)), (1, .one (.ptr 1 0))] [(2, some (.cells [li .i64 0, li .u8 0, li .i64 0, li .i64 0, li .i64 0, ls ByteArray.empty, li .i64 0, ls ByteArray.empty, li .i64 0, ls ByteArray.empty, li .i64 0, ls ByteArray.empty])), (1, some (.cells (Thing.cells a0)))] (by kernel_rfl) ?_
  refine SimI.done (by kernel_rfl) ?_
  refine SimE.thenN ?_
  refine Sim.seq ?_
  refine Sim.region0 ?_
  refine SimI.run 8 [(9, .agg [li .i64 a0.ID, li .u8 31, li .i64 a0.At.X, li .i64 a0.At.Y, li .i64 a0.F.a0.N, ls a0.F.a0.Text, li .i64 a0.F.a1.N, ls a0.F.a1.Text, li .i64 a0.F.a2.N, ls a0.F.a2.Text, li .i64 a0.F.a3.N, ls a0.F.a3.Text]), (8, .agg (A4_Field.cells a0.F)), (7, .one (.ptr 1 3)), (6, .agg [li .i64 a0.At.X, li .i64 a0.At.Y]), (5, .one (.ptr 1 1)), (4, .one (li .i64 a0.ID)), (3, .one (.ptr 1 0))] [(2, some (.cells [li .i64 a0.ID, li .u8 31, li .i64 a0.At.X, li .i64 a0.At.Y, li .i64 a0.F.a0.N, ls a0.F.a0.Text, li .i64 a0.F.a1.N, ls a0.F.a1.Text, li .i64 a0.F.a2.N, ls a0.F.a2.Text, li .i64 a0.F.a3.N, ls a0.F.a3.Text]))] (by kernel_rfl) ?_
  refine SimI.done (by kernel_rfl) ?_
  refine SimE.thenN ?_
  refine Sim.ret ?_
  exact SimE.fin (by kernel_rfl)


-- 23: vedette/vedetteref6.AllBytes
def F23_e : (ByteArray × Int) → PV × List Ob := fun r => (.tup [.one (ls r.1), .one (li .i64 r.2)], [])
def F23_j13 (n : Nat) (a0 : (List Thing)) (s6 : ByteArray) (i7 : Int) (rec_l8 : ByteArray → Int → Option (ByteArray × Int)) : Option (ByteArray × Int) :=
    (ix a0 i7).bind fun (x14 : Thing) =>
    (F20 n x14).bind fun (r15 : Delta) =>
    (F19 n r15).bind fun (r16 : ByteArray) =>
    if s6.size + r16.size ≤ 9223372036854775807 then
      rec_l8 (s6 ++ r16) (IntKind.wrap .i64 (i7 + 1))
    else none
theorem F23_j13_ok (n : Nat) (a0 : (List Thing)) (s6 : ByteArray) (i7 : Int) (rec_l8 : ByteArray → Int → Option (ByteArray × Int)) (m_l8 : Nat) (ih_l8 : ∀ (s6 : ByteArray) (i7 : Int), SimL Try.prog D (n + 8) m_l8 pc23_c28 [(0, .one (vw Thing.cod a0)), (4, .one (ls s6)), (5, .one (li .i64 i7))] [] (rec_l8 s6 i7) (QB 0 (QT Try.prog D (n + 8) pc23_c34 (QF false pc23_r 0 F23_e)))) : Sim Try.prog D (n + 8) pc23_c23 [(0, .one (vw Thing.cod a0)), (4, .one (ls s6)), (5, .one (li .i64 i7))] [] (F23_j13 n a0 s6 i7 rec_l8) (QB 1 (QT Try.prog D (n + 8) pc23_c26 (QL Try.prog D (n + 8) m_l8 pc23_c28 (QB 0 (QT Try.prog D (n + 8) pc23_c34 (QF false pc23_r 0 F23_e)))))) := by
    unfold F23_j13
    refine Sim.region [(0, .one (vw Thing.cod a0)), (4, .one (ls s6)), (5, .one (li .i64 i7))] [] (by kernel_rfl) ?_
    refine SimI.run 3 [(45, .one (li .i64 i7)), (44, .one (vw Thing.cod a0)), (43, .one (ls s6))] [] (by kernel_rfl) ?_
    refine SimI.bind (og := ix a0 i7) { dst := some 46, op := POp.iaddrS 11 (Operand.tmp 44) (Operand.tmp 45), guard := none, hints := [] } (fun x14 => [(46, .one (.eptr (Thing.cod.enc x14) 0))]) (fun x14 => []) (by kernel_rfl) (fun x14 hr => pOp_eff (by kernel_rfl) (by kernel_rfl) (eff_idx (c := Thing.cod) (l := a0) (k := .i64) (n := i7) (by kernel_rfl) (by kernel_rfl) (by kernel_rfl) hr)) (fun x14 => ?_)
    refine SimI.run 1 [(47, .agg (Thing.cells x14))] [] (by kernel_rfl) ?_
    refine SimI.bind (og := F20 n x14) { dst := some 48, op := POp.call true [[]] 20 [Operand.tmp 47], guard := none, hints := [] } (fun r15 => [(48, .agg (Delta.cells r15))]) (fun r15 => []) (by kernel_rfl) (fun r15 hr => pOp_eff (by kernel_rfl) (by kernel_rfl) (eff_call (ARGS := [.agg (Thing.cells x14)]) (by kernel_rfl) (args_clean (by kernel_rfl) args_nil) (F20_ok n x14 r15 hr) (by kernel_rfl))) (fun r15 => ?_)
    refine SimI.bind (og := F19 n r15) { dst := some 49, op := POp.call true [[]] 19 [Operand.tmp 48], guard := none, hints := [] } (fun r16 => [(49, .one (ls r16))]) (fun r16 => []) (by kernel_rfl) (fun r16 hr => pOp_eff (by kernel_rfl) (by kernel_rfl) (eff_call (ARGS := [.agg (Delta.cells r15)]) (by kernel_rfl) (args_clean (by kernel_rfl) args_nil) (F19_ok n r15 r16 hr) (by kernel_rfl))) (fun r16 => ?_)
    refine SimI.guard (c := s6.size + r16.size ≤ 9223372036854775807) { dst := some 50, op := POp.prim (Prim.bin BinOp.add 9 false false) [Operand.tmp 43, Operand.tmp 49], guard := none, hints := [] } [(50, .one (ls (s6 ++ r16)))] [] (by kernel_rfl) (fun hc => pOp_eff (by kernel_rfl) (by kernel_rfl) (eff_prim (by kernel_rfl) (pr_addS _ _ _ s6 r16 hc))) ?_
    refine SimI.run 1 [(4, .one (ls (s6 ++ r16)))] [] (by kernel_rfl) ?_
    refine SimI.done (by kernel_rfl) ?_
    refine SimE.blockN ?_
    refine SimE.thenN ?_
    refine Sim.region0 ?_
    refine SimI.run 3 [(5, .one (li .i64 (IntKind.wrap .i64 (i7 + 1)))), (18, .one (li .i64 (IntKind.wrap .i64 (i7 + 1)))), (17, .one (li .i64 i7))] [] (by kernel_rfl) ?_
    refine SimI.done (by kernel_rfl) ?_
    refine SimE.loopN ?_
    refine SimL.pre (ts := [0, 4, 5]) (os := []) (ow := []) [(0, .one (vw Thing.cod a0)), (4, .one (ls (s6 ++ r16))), (5, .one (li .i64 (IntKind.wrap .i64 (i7 + 1))))] [] (by kernel_rfl) (by kernel_rfl) (by kernel_rfl) ?_
    exact ih_l8 (s6 ++ r16) (IntKind.wrap .i64 (i7 + 1))

def F23_l8 (n : Nat) (a0 : (List Thing)) : Nat → ByteArray → Int → Option (ByteArray × Int)
  | 0, _, _ => none
  | m + 1, s6, i7 =>
    if decide (i7 < ((a0).length : Int)) then
      (ix a0 i7).bind fun (x9 : Thing) =>
      (F18 n x9).bind fun (r10 : Bool) =>
      if !(r10) then
        some (ByteArray.empty, 11)
      else
        if decide ((0 : Int) < i7) then
          (ix a0 i7).bind fun (x11 : Thing) =>
          (ix a0 (IntKind.wrap .i64 (i7 - 1))).bind fun (x12 : Thing) =>
          if decide (x11.ID ≤ x12.ID) then
            some (ByteArray.empty, 11)
          else
            F23_j13 n a0 s6 i7 (F23_l8 n a0 m)
        else
          F23_j13 n a0 s6 i7 (F23_l8 n a0 m)
    else
      some (s6, 0)
theorem F23_l8_ok (n : Nat) (a0 : (List Thing)) : ∀ (m : Nat) (s6 : ByteArray) (i7 : Int), SimL Try.prog D (n + 8) m pc23_c28 [(0, .one (vw Thing.cod a0)), (4, .one (ls s6)), (5, .one (li .i64 i7))] [] (F23_l8 n a0 m s6 i7) (QB 0 (QT Try.prog D (n + 8) pc23_c34 (QF false pc23_r 0 F23_e))) := by
  intro m_l8
  induction m_l8 with
  | zero => intro s6 i7; exact SimL.zero'  rfl
  | succ m_l8 ih_l8 =>
    intro s6 i7
    refine SimL.succ ?_
    unfold F23_l8
    refine Sim.seq ?_
    refine Sim.seq ?_
    refine Sim.region [(0, .one (vw Thing.cod a0)), (4, .one (ls s6)), (5, .one (li .i64 i7))] [] (by kernel_rfl) ?_
    refine SimI.run 4 [(16, .one (lb (decide (i7 < ((a0).length : Int))))), (15, .one (li .i64 ((a0).length : Int))), (14, .one (vw Thing.cod a0)), (13, .one (li .i64 i7))] [] (by kernel_rfl) ?_
    refine SimI.done (by kernel_rfl) ?_
    refine SimE.thenN ?_
    refine Sim.cond (decide (i7 < ((a0).length : Int))) (by kernel_rfl) ?_ ?_
    · refine Sim.skip ?_
      refine SimE.thenN ?_
      refine Sim.seq ?_
      refine Sim.block ?_
      refine Sim.seq ?_
      refine Sim.seq ?_
      refine Sim.region0 ?_
      refine SimI.run 2 [(20, .one (li .i64 i7)), (19, .one (vw Thing.cod a0))] [] (by kernel_rfl) ?_
      refine SimI.bind (og := ix a0 i7) { dst := some 21, op := POp.iaddrS 11 (Operand.tmp 19) (Operand.tmp 20), guard := none, hints := [(19, Hint.imm), (20, Hint.imm)] } (fun x9 => [(21, .one (.eptr (Thing.cod.enc x9) 0))]) (fun x9 => []) (by kernel_rfl) (fun x9 hr => pOp_eff (by kernel_rfl) (by kernel_rfl) (eff_idx (c := Thing.cod) (l := a0) (k := .i64) (n := i7) (by kernel_rfl) (by kernel_rfl) (by kernel_rfl) hr)) (fun x9 => ?_)
      refine SimI.run 1 [(22, .agg (Thing.cells x9))] [] (by kernel_rfl) ?_
      refine SimI.bind (og := F18 n x9) { dst := some 23, op := POp.call false [[]] 18 [Operand.tmp 22], guard := none, hints := [(22, Hint.imm)] } (fun r10 => [(23, .one (lb r10))]) (fun r10 => []) (by kernel_rfl) (fun r10 hr => pOp_eff (by kernel_rfl) (by kernel_rfl) (eff_call (ARGS := [.agg (Thing.cells x9)]) (by kernel_rfl) (args_clean (by kernel_rfl) args_nil) (F18_ok n x9 r10 hr) (by kernel_rfl))) (fun r10 => ?_)
      refine SimI.run 2 [(25, .one (lb (!(r10)))), (24, .one (lb (!(r10))))] [] (by kernel_rfl) ?_
      refine SimI.split 25 (!(r10)) (by kernel_rfl) ?_ ?_
      · refine SimI.run 17 [(42, .one (lb true)), (41, .tup []), (40, .tup []), (39, .tup []), (38, .tup []), (37, .tup []), (36, .tup []), (35, .tup []), (34, .tup []), (33, .tup []), (32, .tup []), (31, .tup []), (30, .tup []), (29, .tup []), (28, .tup []), (27, .tup []), (26, .tup [])] [] (by kernel_rfl) ?_
        refine SimI.done (by kernel_rfl) ?_
        refine SimE.thenN ?_
        refine Sim.condT (by kernel_rfl) ?_
        refine Sim.seq ?_
        refine Sim.region0 ?_
        refine SimI.run 2 [(3, .one (li .i64 11)), (2, .one (ls ByteArray.empty))] [] (by kernel_rfl) ?_
        refine SimI.done (by kernel_rfl) ?_
        refine SimE.thenN ?_
        refine Sim.ret ?_
        refine SimE.thenR ?_
        refine SimE.blockR ?_
        refine SimE.thenR ?_
        refine SimE.loopR ?_
        refine SimE.blockR ?_
        refine SimE.thenR ?_
        exact SimE.fin (by kernel_rfl)
      · refine SimI.run 3 [(28, .one (lb (decide ((0 : Int) < i7)))), (27, .one (lb (decide ((0 : Int) < i7)))), (26, .one (li .i64 i7))] [] (by kernel_rfl) ?_
        refine SimI.split 28 (decide ((0 : Int) < i7)) (by kernel_rfl) ?_ ?_
        · refine SimI.run 2 [(30, .one (li .i64 i7)), (29, .one (vw Thing.cod a0))] [] (by kernel_rfl) ?_
          refine SimI.bind (og := ix a0 i7) { dst := some 31, op := POp.iaddrS 11 (Operand.tmp 29) (Operand.tmp 30), guard := some (28, true), hints := [(29, Hint.imm), (30, Hint.imm)] } (fun x11 => [(31, .one (.eptr (Thing.cod.enc x11) 0))]) (fun x11 => []) (by kernel_rfl) (fun x11 hr => pOp_eff (by kernel_rfl) (by kernel_rfl) (eff_idx (c := Thing.cod) (l := a0) (k := .i64) (n := i7) (by kernel_rfl) (by kernel_rfl) (by kernel_rfl) hr)) (fun x11 => ?_)
          refine SimI.run 5 [(36, .one (li .i64 (IntKind.wrap .i64 (i7 - 1)))), (35, .one (li .i64 i7)), (34, .one (vw Thing.cod a0)), (33, .one (li .i64 x11.ID)), (32, .one (.eptr (Thing.cod.enc x11) 0))] [] (by kernel_rfl) ?_
          refine SimI.bind (og := ix a0 (IntKind.wrap .i64 (i7 - 1))) { dst := some 37, op := POp.iaddrS 11 (Operand.tmp 34) (Operand.tmp 36), guard := some (28, true), hints := [(34, Hint.imm), (36, Hint.imm)] } (fun x12 => [(37, .one (.eptr (Thing.cod.enc x12) 0))]) (fun x12 => []) (by kernel_rfl) (fun x12 hr => pOp_eff (by kernel_rfl) (by kernel_rfl) (eff_idx (c := Thing.cod) (l := a0) (k := .i64) (n := IntKind.wrap .i64 (i7 - 1)) (by kernel_rfl) (by kernel_rfl) (by kernel_rfl) hr)) (fun x12 => ?_)
          refine SimI.run 5 [(42, .one (lb (decide (x11.ID ≤ x12.ID)))), (41, .one (lb (decide (x11.ID ≤ x12.ID)))), (40, .one (lb (decide (x11.ID ≤ x12.ID)))), (39, .one (li .i64 x12.ID)), (38, .one (.eptr (Thing.cod.enc x12) 0))] [] (by kernel_rfl) ?_
          refine SimI.done (by kernel_rfl) ?_
          refine SimE.thenN ?_
          refine Sim.cond (decide (x11.ID ≤ x12.ID)) (by kernel_rfl) ?_ ?_
          · refine Sim.seq ?_
            refine Sim.region0 ?_
            refine SimI.run 2 [(3, .one (li .i64 11)), (2, .one (ls ByteArray.empty))] [] (by kernel_rfl) ?_
            refine SimI.done (by kernel_rfl) ?_
            refine SimE.thenN ?_
            refine Sim.ret ?_
            refine SimE.thenR ?_
            refine SimE.blockR ?_
            refine SimE.thenR ?_
            refine SimE.loopR ?_
            refine SimE.blockR ?_
            refine SimE.thenR ?_
            exact SimE.fin (by kernel_rfl)
          · refine Sim.skip ?_
            refine SimE.thenN ?_
            refine Sim.pre (ts := [0, 4, 5]) (os := []) (ow := []) [(0, .one (vw Thing.cod a0)), (4, .one (ls s6)), (5, .one (li .i64 i7))] [] (by kernel_rfl) (by kernel_rfl) (by kernel_rfl) ?_
            exact F23_j13_ok n a0 s6 i7 (F23_l8 n a0 m_l8) m_l8 ih_l8
        · refine SimI.run 14 [(42, .one (lb false)), (41, .one (lb false)), (40, .tup []), (39, .tup []), (38, .tup []), (37, .tup []), (36, .tup []), (35, .tup []), (34, .tup []), (33, .tup []), (32, .tup []), (31, .tup []), (30, .tup []), (29, .tup [])] [] (by kernel_rfl) ?_
          refine SimI.done (by kernel_rfl) ?_
          refine SimE.thenN ?_
          refine Sim.condF (by kernel_rfl) ?_
          refine Sim.skip ?_
          refine SimE.thenN ?_
          refine Sim.pre (ts := [0, 4, 5]) (os := []) (ow := []) [(0, .one (vw Thing.cod a0)), (4, .one (ls s6)), (5, .one (li .i64 i7))] [] (by kernel_rfl) (by kernel_rfl) (by kernel_rfl) ?_
          exact F23_j13_ok n a0 s6 i7 (F23_l8 n a0 m_l8) m_l8 ih_l8
    · refine Sim.exit ?_
      refine SimE.thenX ?_
      refine SimE.loopX ?_
      refine SimE.blockX ?_
      refine SimE.thenN ?_
      refine Sim.seq ?_
      refine Sim.region0 ?_
      refine SimI.run 3 [(3, .one (li .i64 0)), (2, .one (ls s6)), (51, .one (ls s6))] [] (by kernel_rfl) ?_
      refine SimI.done (by kernel_rfl) ?_
      refine SimE.thenN ?_
      refine Sim.ret ?_
      exact SimE.fin (by kernel_rfl)

def F23 (n : Nat) (a0 : (List Thing)) : Option (ByteArray × Int) :=
  if decide ((200 : Int) < ((a0).length : Int)) then
    some (ByteArray.empty, 13)
  else
    (F60 n (IntKind.wrap .u64 ((a0).length : Int))).bind fun (r1 : ByteArray) =>
    F23_l8 n a0 (n + 8) r1 0
theorem F23_ok (n : Nat) (a0 : (List Thing)) : ∀ r, F23 n a0 = some r → D 23 [.one (vw Thing.cod a0)] [] = some (F23_e r) := by
  refine fn_to (D := D) (n := n + 8) (nt := 52) (rs := pc23_r) (c := pc23_c38) (L := [(0, .one (vw Thing.cod a0))]) (M := []) (k := 0) rfl rfl rfl rfl rfl rfl rfl ?_
  unfold F23
  refine Sim.seq ?_
  refine Sim.region0 ?_
  refine SimI.run 2 [(3, .one (li .i64 0)), (2, .one (ls ByteArray.empty))] [] (by kernel_rfl) ?_
  refine SimI.done (by kernel_rfl) ?_
  refine SimE.thenN ?_
  refine Sim.seq ?_
  refine Sim.seq ?_
  refine Sim.region0 ?_
  refine SimI.run 3 [(8, .one (lb (decide ((200 : Int) < ((a0).length : Int))))), (7, .one (li .i64 ((a0).length : Int))), (6, .one (vw Thing.cod a0))] [] (by kernel_rfl) ?_
  refine SimI.done (by kernel_rfl) ?_
  refine SimE.thenN ?_
  refine Sim.cond (decide ((200 : Int) < ((a0).length : Int))) (by kernel_rfl) ?_ ?_
  · refine Sim.seq ?_
    refine Sim.region0 ?_
    refine SimI.run 2 [(3, .one (li .i64 13)), (2, .one (ls ByteArray.empty))] [] (by kernel_rfl) ?_
    refine SimI.done (by kernel_rfl) ?_
    refine SimE.thenN ?_
    refine Sim.ret ?_
    refine SimE.thenR ?_
    exact SimE.fin (by kernel_rfl)
  · refine Sim.skip ?_
    refine SimE.thenN ?_
    refine Sim.seq ?_
    refine Sim.region0 ?_
    refine SimI.run 3 [(11, .one (li .u64 (IntKind.wrap .u64 ((a0).length : Int)))), (10, .one (li .i64 ((a0).length : Int))), (9, .one (vw Thing.cod a0))] [] (by kernel_rfl) ?_
    refine SimI.bind (og := F60 n (IntKind.wrap .u64 ((a0).length : Int))) { dst := some 12, op := POp.call true [[]] 60 [Operand.tmp 11], guard := none, hints := [] } (fun r1 => [(12, .one (ls r1))]) (fun r1 => []) (by kernel_rfl) (fun r1 hr => pOp_eff (by kernel_rfl) (by kernel_rfl) (eff_call (ARGS := [.one (li .u64 (IntKind.wrap .u64 ((a0).length : Int)))]) (by kernel_rfl) (args_clean (by kernel_rfl) args_nil) (F60_ok n (IntKind.wrap .u64 ((a0).length : Int)) r1 hr) (by kernel_rfl))) (fun r1 => ?_)
    refine SimI.run 1 [(4, .one (ls r1))] [] (by kernel_rfl) ?_
    refine SimI.done (by kernel_rfl) ?_
    refine SimE.thenN ?_
    refine Sim.seq ?_
    refine Sim.seq ?_
    refine Sim.region0 ?_
    refine SimI.run 1 [(5, .one (li .i64 0))] [] (by kernel_rfl) ?_
    refine SimI.done (by kernel_rfl) ?_
    refine SimE.thenN ?_
    refine Sim.block ?_
    refine Sim.loop ?_
    refine SimL.pre (ts := [0, 4, 5]) (os := []) (ow := []) [(0, .one (vw Thing.cod a0)), (4, .one (ls r1)), (5, .one (li .i64 0))] [] (by kernel_rfl) (by kernel_rfl) (by kernel_rfl) ?_
    exact F23_l8_ok n a0 (n + 8) r1 0


-- 27: vedette/vedetteref6.Server
def F27_e : Int → PV × List Ob := fun r => (.one (li .i64 r), [])
def F27 (n : Nat) (a0 : Int) : Option Int :=
  some (Int.tmod (imax 0 a0) 4)
theorem F27_ok (n : Nat) (a0 : Int) : ∀ r, F27 n a0 = some r → D 27 [.one (li .i64 a0)] [] = some (F27_e r) := by
  refine fn_to (D := D) (n := n + 8) (nt := 6) (rs := pc27_r) (c := pc27_c5) (L := [(0, .one (li .i64 a0))]) (M := []) (k := 0) rfl rfl rfl rfl rfl rfl rfl ?_
  unfold F27
  refine Sim.seq ?_
  refine Sim.region0 ?_
  refine SimI.run 1 [(2, .one (li .i64 0))] [] (by kernel_rfl) ?_
  refine SimI.done (by kernel_rfl) ?_
  refine SimE.thenN ?_
  refine Sim.seq ?_
  refine Sim.region0 ?_
  refine SimI.run 4 [(2, .one (li .i64 (Int.tmod (imax 0 a0) 4))), (5, .one (li .i64 (Int.tmod (imax 0 a0) 4))), (4, .one (li .i64 (imax 0 a0))), (3, .one (li .i64 a0))] [] (by kernel_rfl) ?_
  refine SimI.done (by kernel_rfl) ?_
  refine SimE.thenN ?_
  refine Sim.ret ?_
  exact SimE.fin (by kernel_rfl)


-- 29: vedette/vedetteref6.Number
def F29_e : Int → PV × List Ob := fun r => (.one (li .i64 r), [])
def F29 (n : Nat) (a0 : Int) (a1 : Int) : Option Int :=
  some (IntKind.wrap .i64 (IntKind.wrap .i64 (4 * imax 0 (imin a1 200000)) + imax 0 (imin a0 3)))
theorem F29_ok (n : Nat) (a0 : Int) (a1 : Int) : ∀ r, F29 n a0 a1 = some r → D 29 [.one (li .i64 a0), .one (li .i64 a1)] [] = some (F29_e r) := by
  refine fn_to (D := D) (n := n + 8) (nt := 13) (rs := pc29_r) (c := pc29_c5) (L := [(0, .one (li .i64 a0)), (1, .one (li .i64 a1))]) (M := []) (k := 0) rfl rfl rfl rfl rfl rfl rfl ?_
  unfold F29
  refine Sim.seq ?_
  refine Sim.region0 ?_
  refine SimI.run 1 [(4, .one (li .i64 0))] [] (by kernel_rfl) ?_
  refine SimI.done (by kernel_rfl) ?_
  refine SimE.thenN ?_
  refine Sim.seq ?_
  refine Sim.region0 ?_
  refine SimI.run 9 [(4, .one (li .i64 (IntKind.wrap .i64 (IntKind.wrap .i64 (4 * imax 0 (imin a1 200000)) + imax 0 (imin a0 3))))), (12, .one (li .i64 (IntKind.wrap .i64 (IntKind.wrap .i64 (4 * imax 0 (imin a1 200000)) + imax 0 (imin a0 3))))), (11, .one (li .i64 (imax 0 (imin a0 3)))), (10, .one (li .i64 (imin a0 3))), (9, .one (li .i64 a0)), (8, .one (li .i64 (IntKind.wrap .i64 (4 * imax 0 (imin a1 200000))))), (7, .one (li .i64 (imax 0 (imin a1 200000)))), (6, .one (li .i64 (imin a1 200000))), (5, .one (li .i64 a1))] [] (by kernel_rfl) ?_
  refine SimI.done (by kernel_rfl) ?_
  refine SimE.thenN ?_
  refine Sim.ret ?_
  exact SimE.fin (by kernel_rfl)


end Go.Proofs.Ytobeamaaifgllaa
