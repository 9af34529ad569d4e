/-
  Functions of the program as functions of Lean. No condition.
-/
import Derived.Test.YtobeamaaifgllaaDiffFoldsE
namespace Go.Proofs.Ytobeamaaifgllaa
open Go Go.Rx
set_option maxRecDepth 100000
set_option linter.unusedVariables false
set_option linter.unusedSimpArgs false
set_option linter.unnecessarySimpa false
-- 34: vedette/vedetteref6.SameAll
def F34_e : Bool → PV × List Ob := fun r => (.one (lb r), [])
def F34_l4 (n : Nat) (a0 : (List Thing)) (a1 : (List Thing)) : Nat → Int → Option Bool
  | 0, _ => none
  | m + 1, i3 =>
    if decide (i3 < ((a0).length : Int)) then
      (ix a0 i3).bind fun (x5 : Thing) =>
      (ix a1 i3).bind fun (x6 : Thing) =>
      if !(Thing.eqb x5 x6) then
        some false
      else
        (F34_l4 n a0 a1 m) (IntKind.wrap .i64 (i3 + 1))
    else
      some true
theorem F34_l4_ok (n : Nat) (a0 : (List Thing)) (a1 : (List Thing)) : ∀ (m : Nat) (i3 : Int), SimL Try.prog D (n + 8) m pc34_c25 [(0, .one (vw Thing.cod a0)), (1, .one (vw Thing.cod a1)), (5, qj i3)] [] (F34_l4 n a0 a1 m i3) (QB 0 (QT Try.prog D (n + 8) pc34_c31 (QF false pc34_r 0 F34_e))) := by
  intro m_l4
  induction m_l4 with
  | zero => intro i3; exact SimL.zero'  rfl
  | succ m_l4 ih_l4 =>
    intro i3
    refine SimL.succ ?_
    unfold F34_l4
    refine Sim.seq (.seq (.rg [(0, .one (vw Thing.cod a0)), (1, .one (vw Thing.cod a1)), (5, qj i3)] [] (.rd 4 [(14, qb (decide (i3 < ((a0).length : Int)))), (13, qj ((a0).length : Int)), (12, .one (vw Thing.cod a0)), (11, qj i3)] [] (.thenN (.cond (decide (i3 < ((a0).length : Int))) (by kernel_rfl) ?_ ?_)))))
    · refine Sim.skip (.thenN (.seq (.block (.st 2 [(18, qj i3), (17, .one (vw Thing.cod a0))] [] (.bind (og := ix a0 i3) ⟨some 19, POp.iaddrS 11 (Operand.tmp 17) (Operand.tmp 18), none, [(17, Hint.imm), (18, Hint.imm)]⟩ (fun x5 => [(19, .one (.eptr (Thing.cod.enc x5) 0))]) (fun x5 => []) (by kernel_rfl) (fun x5 hr => pOp_eff (by kernel_rfl) (by kernel_rfl) (eff_idx (c := Thing.cod) (l := a0) (k := .i64) (n := i3) (by kernel_rfl) (by kernel_rfl) (by kernel_rfl) hr)) (fun x5 => ?_))))))
      refine SimI.rn 3 [(22, qj i3), (21, .one (vw Thing.cod a1)), (20, .agg (Thing.cells x5))] [] (.bind (og := ix a1 i3) ⟨some 23, POp.iaddrS 11 (Operand.tmp 21) (Operand.tmp 22), none, [(21, Hint.imm), (22, Hint.imm)]⟩ (fun x6 => [(23, .one (.eptr (Thing.cod.enc x6) 0))]) (fun x6 => []) (by kernel_rfl) (fun x6 hr => pOp_eff (by kernel_rfl) (by kernel_rfl) (eff_idx (c := Thing.cod) (l := a1) (k := .i64) (n := i3) (by kernel_rfl) (by kernel_rfl) (by kernel_rfl) hr)) (fun x6 => ?_))
      refine SimI.rn 1 [(24, .agg (Thing.cells x6))] [] (.step ⟨some 25, POp.prim (Prim.bin BinOp.neq 28 false false) [Operand.tmp 20, Operand.tmp 24], none, [(20, Hint.imm), (24, Hint.imm)]⟩ [(25, qb (!(Thing.eqb x5 x6)))] [] (by kernel_rfl) (pOp_eff (by kernel_rfl) (by kernel_rfl) (eff_prim (by kernel_rfl) (Thing_eqn x5 x6 _ _))) (.dn (.thenN (.cond (!(Thing.eqb x5 x6)) (by kernel_rfl) ?_ ?_))))
      · exact Sim.sr 1 [(4, qb false)] [] (.ret (.blockR (.thenR (.loopR (.blockR (.thenR .fn))))))
      · refine Sim.skip (.blockN (.thenN (.region0 (.rd 3 [(5, qj (IntKind.wrap .i64 (i3 + 1))), (16, qj (IntKind.wrap .i64 (i3 + 1))), (15, qj i3)] [] (.loopN (.pr [0, 1, 5] [] [] [(0, .one (vw Thing.cod a0)), (1, .one (vw Thing.cod a1)), (5, qj (IntKind.wrap .i64 (i3 + 1)))] [] ?_))))))
        exact ih_l4 (IntKind.wrap .i64 (i3 + 1))
    · exact Sim.exit (.thenX (.loopX (.blockX (.thenN (.sr 1 [(4, qb true)] [] (.ret .fn))))))

def F34 (n : Nat) (a0 : (List Thing)) (a1 : (List Thing)) : Option Bool :=
  if ((a0).length : Int) != ((a1).length : Int) then
    some false
  else
    F34_l4 n a0 a1 (n + 8) 0
theorem F34_ok (n : Nat) (a0 : (List Thing)) (a1 : (List Thing)) : ∀ r, F34 n a0 a1 = some r → D 34 [.one (vw Thing.cod a0), .one (vw Thing.cod a1)] [] = some (F34_e r) := by
  refine fn_to (D := D) (n := n + 8) (nt := 26) (rs := pc34_r) (c := pc34_c34) (L := [(0, .one (vw Thing.cod a0)), (1, .one (vw Thing.cod a1))]) (M := []) (k := 0) rfl rfl rfl rfl rfl rfl rfl ?_
  unfold F34
  refine Sim.sr 1 [(4, qb false)] [] (.seq (.sr 5 [(10, qb (((a0).length : Int) != ((a1).length : Int))), (9, qj ((a1).length : Int)), (8, .one (vw Thing.cod a1)), (7, qj ((a0).length : Int)), (6, .one (vw Thing.cod a0))] [] (.cond (((a0).length : Int) != ((a1).length : Int)) (by kernel_rfl) ?_ ?_)))
  · exact Sim.sr 1 [(4, qb false)] [] (.ret (.thenR .fn))
  · refine Sim.skip (.thenN (.seq (.sr 1 [(5, qj 0)] [] (.block (.loop (.pr [0, 1, 5] [] [] [(0, .one (vw Thing.cod a0)), (1, .one (vw Thing.cod a1)), (5, qj 0)] [] ?_))))))
    exact F34_l4_ok n a0 a1 (n + 8) 0


-- 79: vedette/geom.In
def F79_e : Bool → PV × List Ob := fun r => (.one (lb r), [])
def F79 (n : Nat) (a0 : Rect) (a1 : Point) : Option Bool :=
  if decide (a0.X0 ≤ a1.X) then
    if decide (a1.X < a0.X1) then
      if decide (a0.Y0 ≤ a1.Y) then
        some (decide (a1.Y < a0.Y1))
      else
        some false
    else
      some false
  else
    some false
theorem F79_ok (n : Nat) (a0 : Rect) (a1 : Point) : ∀ r, F79 n a0 a1 = some r → D 79 [.agg (Rect.cells a0), .agg [li .i64 a1.X, li .i64 a1.Y]] [] = some (F79_e r) := by
  refine fn_to (D := D) (n := n + 8) (nt := 31) (rs := pc79_r) (c := pc79_c5) (L := [(0, .agg (Rect.cells a0)), (1, .agg [lj a1.X, lj a1.Y])]) (M := []) (k := 0) rfl rfl rfl rfl rfl rfl rfl ?_
  unfold F79
  refine Sim.sr 3 [(4, qb false), (3, qp 3 0), (2, qp 2 0)] [(3, some (.cells [lj a1.X, lj a1.Y])), (2, some (.cells (Rect.cells a0)))] (.st 6 [(10, qb (decide (a0.X0 ≤ a1.X))), (9, qb (decide (a0.X0 ≤ a1.X))), (8, qj a0.X0), (7, qp 2 0), (6, qj a1.X), (5, qp 3 0)] [] (.split 10 (decide (a0.X0 ≤ a1.X)) (by kernel_rfl) ?_ ?_))
  · refine SimI.rn 7 [(17, qb (decide (a1.X < a0.X1))), (16, qb (decide (a1.X < a0.X1))), (15, qb (decide (a1.X < a0.X1))), (14, qj a0.X1), (13, qp 2 2), (12, qj a1.X), (11, qp 3 0)] [] (.split 17 (decide (a1.X < a0.X1)) (by kernel_rfl) ?_ ?_)
    · refine SimI.rn 7 [(24, qb (decide (a0.Y0 ≤ a1.Y))), (23, qb (decide (a0.Y0 ≤ a1.Y))), (22, qb (decide (a0.Y0 ≤ a1.Y))), (21, qj a0.Y0), (20, qp 2 1), (19, qj a1.Y), (18, qp 3 1)] [] (.split 24 (decide (a0.Y0 ≤ a1.Y)) (by kernel_rfl) ?_ ?_)
      · exact SimI.rd 7 [(4, qb (decide (a1.Y < a0.Y1))), (30, qb (decide (a1.Y < a0.Y1))), (29, qb (decide (a1.Y < a0.Y1))), (28, qj a0.Y1), (27, qp 2 3), (26, qj a1.Y), (25, qp 3 1)] [] (.thenN (.ret .fn))
      · exact SimI.rd 7 [(4, qb false), (30, qb false), (29, .tup []), (28, .tup []), (27, .tup []), (26, .tup []), (25, .tup [])] [] (.thenN (.ret .fn))
    · exact SimI.rd 14 [(4, qb false), (30, qb false), (29, .tup []), (28, .tup []), (27, .tup []), (26, .tup []), (25, .tup []), (24, qb false), (23, qb false), (22, .tup []), (21, .tup []), (20, .tup []), (19, .tup []), (18, .tup [])] [] (.thenN (.ret .fn))
  · exact SimI.rd 21 [(4, qb false), (30, qb false), (29, .tup []), (28, .tup []), (27, .tup []), (26, .tup []), (25, .tup []), (24, qb false), (23, qb false), (22, .tup []), (21, .tup []), (20, .tup []), (19, .tup []), (18, .tup []), (17, qb false), (16, qb false), (15, .tup []), (14, .tup []), (13, .tup []), (12, .tup []), (11, .tup [])] [] (.thenN (.ret .fn))


-- 41: vedette/diff.Seen
def F41_e : (List Thing) → PV × List Ob := fun r => (.one (vw Thing.cod r), [])
def F41_l7 (n : Nat) (a0 : (List Thing)) (a1 : Rect) : Nat → (List Thing) → Int → Option (List Thing)
  | 0, _, _ => none
  | m + 1, l5, i6 =>
    if decide (i6 < ((a0).length : Int)) then
      (ix a0 i6).bind fun (x8 : Thing) =>
      (F79 n a1 x8.At).bind fun (r9 : Bool) =>
      if r9 then
        if ((l5).length + 1) * 120 ≤ maxCells ∧ (l5).length + 1 ≤ maxCells then
          (F41_l7 n a0 a1 m) (l5 ++ [x8]) (IntKind.wrap .i64 (i6 + 1))
        else none
      else
        (F41_l7 n a0 a1 m) l5 (IntKind.wrap .i64 (i6 + 1))
    else
      some l5
theorem F41_l7_ok (n : Nat) (a0 : (List Thing)) (a1 : Rect) : ∀ (m : Nat) (l5 : (List Thing)) (i6 : Int), SimL Try.prog D (n + 8) m pc41_c19 [(3, qp 3 0), (5, .one (.osl 100005 0 0 (l5).length)), (8, .one (vw Thing.cod a0)), (9, qj ((a0).length : Int)), (10, qj i6)] [(3, some (.cells (Rect.cells a1))), (100005, some (.arr 28 Thing.cod.sz 0 (l5).length (getOf Thing.cod l5)))] (F41_l7 n a0 a1 m l5 i6) (QB 0 (QT Try.prog D (n + 8) pc41_c25 (QF false pc41_r 0 F41_e))) := by
  intro m_l7
  induction m_l7 with
  | zero => intro l5 i6; exact SimL.zero'  rfl
  | succ m_l7 ih_l7 =>
    intro l5 i6
    refine SimL.succ ?_
    unfold F41_l7
    refine Sim.seq (.rg [(3, qp 3 0), (5, .one (.osl 100005 0 0 (l5).length)), (8, .one (vw Thing.cod a0)), (9, qj ((a0).length : Int)), (10, qj i6)] [(3, some (.cells (Rect.cells a1))), (100005, some (.arr 28 Thing.cod.sz 0 (l5).length (getOf Thing.cod l5)))] (.rd 1 [(11, qb (decide (i6 < ((a0).length : Int))))] [] (.thenN (.seq (.cond (decide (i6 < ((a0).length : Int))) (by kernel_rfl) ?_ ?_)))))
    · refine Sim.skip (.thenN (.seq (.block (.seq (.region0 (.bind (og := ix a0 i6) ⟨some 12, POp.iaddrS 11 (Operand.tmp 8) (Operand.tmp 10), none, []⟩ (fun x8 => [(12, .one (.eptr (Thing.cod.enc x8) 0))]) (fun x8 => []) (by kernel_rfl) (fun x8 hr => pOp_eff (by kernel_rfl) (by kernel_rfl) (eff_idx (c := Thing.cod) (l := a0) (k := .i64) (n := i6) (by kernel_rfl) (by kernel_rfl) (by kernel_rfl) hr)) (fun x8 => ?_)))))))
      refine SimI.rd 3 [(7, qp 7 0), (13, .agg (Thing.cells x8))] [(7, some (.cells (Thing.cells x8))), (7, some (.cells [lj 0, lj 0, lj 0, lj 0, ls be, lj 0, ls be, lj 0, ls be, lj 0, ls be]))] (.thenN (.st 3 [(16, .agg [lj x8.At.X, lj x8.At.Y]), (15, qp 7 1), (14, .agg (Rect.cells a1))] [] (.cl 17 true [[], []] 79 [Operand.tmp 14, Operand.tmp 16] none (fun r9 => qb r9) [.agg (Rect.cells a1), .agg [lj x8.At.X, lj x8.At.Y]] (F79_ok n a1 x8.At) (fun r9 => ?_))))
      refine SimI.dn (.thenN (.cond r9 (by kernel_rfl) ?_ ?_))
      · refine Sim.region0 (.rn 3 [(20, .one (vw Thing.cod [x8])), (19, .agg (Thing.cells x8)), (18, .one (.osl 100005 0 0 (l5).length))] [] (.guard (c := ((l5).length + 1) * 120 ≤ maxCells ∧ (l5).length + 1 ≤ maxCells) ⟨some 21, POp.app 100005 28 11 120 (Operand.tmp 18) (Operand.tmp 20), none, []⟩ [(21, .one (.osl 100005 (0 + 1) 0 ((l5 ++ [x8])).length))] [(100005, some (.arr 28 Thing.cod.sz (0 + 1) ((l5 ++ [x8])).length (getOf Thing.cod (l5 ++ [x8]))))] (by kernel_rfl) (fun hc => pOp_eff (by kernel_rfl) (by kernel_rfl) (eff_appO (c := Thing.cod) (g := 0) (l := l5) (a := x8) (by kernel_rfl) (by kernel_rfl) (by kernel_rfl) (by kernel_rfl) hc)) (.rd 1 [(5, .one (.osl 100005 (0 + 1) 0 ((l5 ++ [x8])).length))] [] (.blockN (.thenN (.region0 (.rd 2 [(10, qj (IntKind.wrap .i64 (i6 + 1))), (22, qj (IntKind.wrap .i64 (i6 + 1)))] [] (.loopN (.pr [3, 5, 8, 9, 10] [3, 7, 100005] [(false, 5, 0, 100005, 28, 11)] [(3, qp 3 0), (5, .one (.osl 100005 0 0 ((l5 ++ [x8])).length)), (8, .one (vw Thing.cod a0)), (9, qj ((a0).length : Int)), (10, qj (IntKind.wrap .i64 (i6 + 1)))] [(3, some (.cells (Rect.cells a1))), (100005, some (.arr 28 Thing.cod.sz 0 ((l5 ++ [x8])).length (getOf Thing.cod (l5 ++ [x8]))))] ?_)))))))))
        exact ih_l7 (l5 ++ [x8]) (IntKind.wrap .i64 (i6 + 1))
      · refine Sim.skip (.blockN (.thenN (.region0 (.rd 2 [(10, qj (IntKind.wrap .i64 (i6 + 1))), (22, qj (IntKind.wrap .i64 (i6 + 1)))] [] (.loopN (.pr [3, 5, 8, 9, 10] [3, 7, 100005] [(false, 5, 0, 100005, 28, 11)] [(3, qp 3 0), (5, .one (.osl 100005 0 0 (l5).length)), (8, .one (vw Thing.cod a0)), (9, qj ((a0).length : Int)), (10, qj (IntKind.wrap .i64 (i6 + 1)))] [(3, some (.cells (Rect.cells a1))), (100005, some (.arr 28 Thing.cod.sz 0 (l5).length (getOf Thing.cod l5)))] ?_))))))
        exact ih_l7 l5 (IntKind.wrap .i64 (i6 + 1))
    · exact Sim.exit (.thenX (.loopX (.blockX (.thenN (.sr 2 [(4, .one (.osl 100005 0 0 (l5).length)), (23, .one (.osl 100005 0 0 (l5).length))] [] (.ret (.fin (out_of (os := []) (ress_cons (resOf_own (c := Thing.cod) (k := 100005) (g := 0) (el := 28) (l := l5) (by kernel_rfl) (by kernel_rfl) (by kernel_rfl)) (ress_nil)) (by kernel_rfl) rfl (by kernel_rfl)))))))))

def F41 (n : Nat) (a0 : (List Thing)) (a1 : Rect) : Option (List Thing) :=
  F41_l7 n a0 a1 (n + 8) ([] : List Thing) 0
theorem F41_ok (n : Nat) (a0 : (List Thing)) (a1 : Rect) : ∀ r, F41 n a0 a1 = some r → D 41 [.one (vw Thing.cod a0), .agg (Rect.cells a1)] [] = some (F41_e r) := by
  refine fn_to (D := D) (n := n + 8) (nt := 24) (rs := pc41_r) (c := pc41_c28) (L := [(0, .one (vw Thing.cod a0)), (1, .agg (Rect.cells a1))]) (M := []) (k := 0) rfl rfl rfl rfl rfl rfl rfl ?_
  unfold F41
  refine Sim.sr 2 [(4, .one (lnil)), (3, qp 3 0)] [(3, some (.cells (Rect.cells a1)))] (.sr 1 [(5, .one (lnil))] [] (.seq (.sr 3 [(10, qj 0), (9, qj ((a0).length : Int)), (8, .one (vw Thing.cod a0))] [] (.block (.loop (.pr [3, 5, 8, 9, 10] [3, 7, 100005] [(false, 5, 0, 100005, 28, 11)] [(3, qp 3 0), (5, .one (.osl 100005 0 0 (([] : List Thing)).length)), (8, .one (vw Thing.cod a0)), (9, qj ((a0).length : Int)), (10, qj 0)] [(3, some (.cells (Rect.cells a1))), (100005, some (.arr 28 Thing.cod.sz 0 (([] : List Thing)).length (getOf Thing.cod ([] : List Thing))))] ?_))))))
  exact F41_l7_ok n a0 a1 (n + 8) ([] : List Thing) 0


-- 76: vedette/fields.Diff
def F76_e : (Delta × Bool) → PV × List Ob := fun r => (.tup [.agg (Delta.cells r.1), .one (lb r.2)], [])
def F76_u20 (n : Nat) (a1 : Thing) (i2 : Int) (i3 : Int) (i6 : Int) (s7 : ByteArray) (i10 : Int) (s11 : ByteArray) (i14 : Int) (s15 : ByteArray) (i17 : Int) (i18 : Int) (s19 : ByteArray) : Option (Delta × Bool) :=
    some ((Delta.mk a1.ID i17 (Point.mk i2 i3) (A4.mk (Field.mk i6 s7) (Field.mk i10 s11) (Field.mk i14 s15) (Field.mk i18 s19))), i17 != 0)
theorem F76_u20_ok (n : Nat) (a0 : Thing) (a1 : Thing) (i2 : Int) (i3 : Int) (i6 : Int) (s7 : ByteArray) (i10 : Int) (s11 : ByteArray) (i14 : Int) (s15 : ByteArray) (i17 : Int) (i18 : Int) (s19 : ByteArray) : SimL Try.prog D (n + 8) (n + 4) pc76_c26 [(2, qp 2 0), (4, qp 4 0), (6, qp 6 0), (22, .agg (A4_Field.cells a1.F)), (23, qj 4)] [(2, some (.cells (Thing.cells a0))), (4, some (.cells [lj 0, li .u8 0, lj 0, lj 0, lj 0, ls be, lj 0, ls be, lj 0, ls be, lj 0, ls be])), (6, some (.cells [lj a1.ID, li .u8 i17, lj i2, lj i3, lj i6, ls s7, lj i10, ls s11, lj i14, ls s15, lj i18, ls s19]))] (F76_u20 n a1 i2 i3 i6 s7 i10 s11 i14 s15 i17 i18 s19) (QB 0 (QT Try.prog D (n + 8) pc76_c32 (QF false pc76_r 0 F76_e))) := by
    unfold F76_u20
    exact SimL.succ (.seq (.rg [(2, qp 2 0), (4, qp 4 0), (6, qp 6 0), (22, .agg (A4_Field.cells a1.F)), (23, qj 4)] [(2, some (.cells (Thing.cells a0))), (4, some (.cells [lj 0, li .u8 0, lj 0, lj 0, lj 0, ls be, lj 0, ls be, lj 0, ls be, lj 0, ls be])), (6, some (.cells [lj a1.ID, li .u8 i17, lj i2, lj i3, lj i6, ls s7, lj i10, ls s11, lj i14, ls s15, lj i18, ls s19]))] (.rd 1 [(24, qb false)] [] (.thenN (.seq (.condF (by kernel_rfl) (.exit (.thenX (.loopX (.blockX (.thenN (.sr 6 [(5, qb (i17 != 0)), (47, qb (i17 != 0)), (46, .one (li .u8 i17)), (45, qp 6 1), (44, .agg [lj a1.ID, li .u8 i17, lj i2, lj i3, lj i6, ls s7, lj i10, ls s11, lj i14, ls s15, lj i18, ls s19])] [(4, some (.cells [lj a1.ID, li .u8 i17, lj i2, lj i3, lj i6, ls s7, lj i10, ls s11, lj i14, ls s15, lj i18, ls s19]))] (.ret .fn)))))))))))))

def F76_u16 (n : Nat) (a0 : Thing) (a1 : Thing) (i2 : Int) (i3 : Int) (i6 : Int) (s7 : ByteArray) (i10 : Int) (s11 : ByteArray) (i13 : Int) (i14 : Int) (s15 : ByteArray) : Option (Delta × Bool) :=
    if !(Field.eqb a0.F.a3 a1.F.a3) then
      F76_u20 n a1 i2 i3 i6 s7 i10 s11 i14 s15 (bitsI .or .u8 i13 (shlI .u8 2 3)) a1.F.a3.N a1.F.a3.Text
    else
      F76_u20 n a1 i2 i3 i6 s7 i10 s11 i14 s15 i13 0 ByteArray.empty
theorem F76_u16_ok (n : Nat) (a0 : Thing) (a1 : Thing) (i2 : Int) (i3 : Int) (i6 : Int) (s7 : ByteArray) (i10 : Int) (s11 : ByteArray) (i13 : Int) (i14 : Int) (s15 : ByteArray) : SimL Try.prog D (n + 8) (n + 5) pc76_c26 [(2, qp 2 0), (4, qp 4 0), (6, qp 6 0), (22, .agg (A4_Field.cells a1.F)), (23, qj 3)] [(2, some (.cells (Thing.cells a0))), (4, some (.cells [lj 0, li .u8 0, lj 0, lj 0, lj 0, ls be, lj 0, ls be, lj 0, ls be, lj 0, ls be])), (6, some (.cells [lj a1.ID, li .u8 i13, lj i2, lj i3, lj i6, ls s7, lj i10, ls s11, lj i14, ls s15, lj 0, ls be]))] (F76_u16 n a0 a1 i2 i3 i6 s7 i10 s11 i13 i14 s15) (QB 0 (QT Try.prog D (n + 8) pc76_c32 (QF false pc76_r 0 F76_e))) := by
    unfold F76_u16
    refine SimL.succ (.seq (.rg [(2, qp 2 0), (4, qp 4 0), (6, qp 6 0), (22, .agg (A4_Field.cells a1.F)), (23, qj 3)] [(2, some (.cells (Thing.cells a0))), (4, some (.cells [lj 0, li .u8 0, lj 0, lj 0, lj 0, ls be, lj 0, ls be, lj 0, ls be, lj 0, ls be])), (6, some (.cells [lj a1.ID, li .u8 i13, lj i2, lj i3, lj i6, ls s7, lj i10, ls s11, lj i14, ls s15, lj 0, ls be]))] (.rd 1 [(24, qb true)] [] (.thenN (.seq (.condT (by kernel_rfl) (.skip (.thenN (.seq (.block (.sr 5 [(7, qj 3), (8, qp 8 0), (26, .agg [lj a1.F.a3.N, ls a1.F.a3.Text]), (25, qj 3)] [(8, some (.cells [lj a1.F.a3.N, ls a1.F.a3.Text])), (8, some (.cells [lj 0, ls be]))] (.st 5 [(31, .agg [lj a1.F.a3.N, ls a1.F.a3.Text]), (30, .agg [lj a0.F.a3.N, ls a0.F.a3.Text]), (29, qp 2 9), (28, qp 2 3), (27, qj 3)] [] (.step ⟨some 32, POp.prim (Prim.bin BinOp.neq 25 false false) [Operand.tmp 30, Operand.tmp 31], none, [(30, Hint.imm), (31, Hint.imm)]⟩ [(32, qb (!(Field.eqb a0.F.a3 a1.F.a3)))] [] (by kernel_rfl) (pOp_eff (by kernel_rfl) (by kernel_rfl) (eff_prim (by kernel_rfl) (Field_eqn a0.F.a3 a1.F.a3 _ _))) (.dn (.thenN (.cond (!(Field.eqb a0.F.a3 a1.F.a3)) (by kernel_rfl) ?_ ?_))))))))))))))))
    · refine Sim.sr 7 [(38, qp 6 1), (37, .one (li .u8 (bitsI .or .u8 i13 (shlI .u8 2 3)))), (36, .one (li .u8 (shlI .u8 2 3))), (35, qj 3), (34, .one (li .u8 i13)), (33, qp 6 1)] [(6, some (.cells [lj a1.ID, li .u8 (bitsI .or .u8 i13 (shlI .u8 2 3)), lj i2, lj i3, lj i6, ls s7, lj i10, ls s11, lj i14, ls s15, lj 0, ls be]))] (.region0 (.rd 5 [(42, qp 6 10), (41, qp 6 4), (40, .agg [lj a1.F.a3.N, ls a1.F.a3.Text]), (39, qj 3)] [(6, some (.cells [lj a1.ID, li .u8 (bitsI .or .u8 i13 (shlI .u8 2 3)), lj i2, lj i3, lj i6, ls s7, lj i10, ls s11, lj i14, ls s15, lj a1.F.a3.N, ls a1.F.a3.Text]))] (.blockN (.thenN (.region0 (.rd 2 [(23, qj 4), (43, qj 4)] [] (.loopN (.pr [2, 4, 6, 22, 23] [2, 3, 4, 6, 8] [] [(2, qp 2 0), (4, qp 4 0), (6, qp 6 0), (22, .agg (A4_Field.cells a1.F)), (23, qj 4)] [(2, some (.cells (Thing.cells a0))), (4, some (.cells [lj 0, li .u8 0, lj 0, lj 0, lj 0, ls be, lj 0, ls be, lj 0, ls be, lj 0, ls be])), (6, some (.cells [lj a1.ID, li .u8 (bitsI .or .u8 i13 (shlI .u8 2 3)), lj i2, lj i3, lj i6, ls s7, lj i10, ls s11, lj i14, ls s15, lj a1.F.a3.N, ls a1.F.a3.Text]))] ?_))))))))
      exact F76_u20_ok n a0 a1 i2 i3 i6 s7 i10 s11 i14 s15 (bitsI .or .u8 i13 (shlI .u8 2 3)) a1.F.a3.N a1.F.a3.Text
    · refine Sim.skip (.blockN (.thenN (.region0 (.rd 2 [(23, qj 4), (43, qj 4)] [] (.loopN (.pr [2, 4, 6, 22, 23] [2, 3, 4, 6, 8] [] [(2, qp 2 0), (4, qp 4 0), (6, qp 6 0), (22, .agg (A4_Field.cells a1.F)), (23, qj 4)] [(2, some (.cells (Thing.cells a0))), (4, some (.cells [lj 0, li .u8 0, lj 0, lj 0, lj 0, ls be, lj 0, ls be, lj 0, ls be, lj 0, ls be])), (6, some (.cells [lj a1.ID, li .u8 i13, lj i2, lj i3, lj i6, ls s7, lj i10, ls s11, lj i14, ls s15, lj 0, ls be]))] ?_))))))
      exact F76_u20_ok n a0 a1 i2 i3 i6 s7 i10 s11 i14 s15 i13 0 be

def F76_u12 (n : Nat) (a0 : Thing) (a1 : Thing) (i2 : Int) (i3 : Int) (i6 : Int) (s7 : ByteArray) (i9 : Int) (i10 : Int) (s11 : ByteArray) : Option (Delta × Bool) :=
    if !(Field.eqb a0.F.a2 a1.F.a2) then
      F76_u16 n a0 a1 i2 i3 i6 s7 i10 s11 (bitsI .or .u8 i9 (shlI .u8 2 2)) a1.F.a2.N a1.F.a2.Text
    else
      F76_u16 n a0 a1 i2 i3 i6 s7 i10 s11 i9 0 ByteArray.empty
theorem F76_u12_ok (n : Nat) (a0 : Thing) (a1 : Thing) (i2 : Int) (i3 : Int) (i6 : Int) (s7 : ByteArray) (i9 : Int) (i10 : Int) (s11 : ByteArray) : SimL Try.prog D (n + 8) (n + 6) pc76_c26 [(2, qp 2 0), (4, qp 4 0), (6, qp 6 0), (22, .agg (A4_Field.cells a1.F)), (23, qj 2)] [(2, some (.cells (Thing.cells a0))), (4, some (.cells [lj 0, li .u8 0, lj 0, lj 0, lj 0, ls be, lj 0, ls be, lj 0, ls be, lj 0, ls be])), (6, some (.cells [lj a1.ID, li .u8 i9, lj i2, lj i3, lj i6, ls s7, lj i10, ls s11, lj 0, ls be, lj 0, ls be]))] (F76_u12 n a0 a1 i2 i3 i6 s7 i9 i10 s11) (QB 0 (QT Try.prog D (n + 8) pc76_c32 (QF false pc76_r 0 F76_e))) := by
    unfold F76_u12
    refine SimL.succ (.seq (.rg [(2, qp 2 0), (4, qp 4 0), (6, qp 6 0), (22, .agg (A4_Field.cells a1.F)), (23, qj 2)] [(2, some (.cells (Thing.cells a0))), (4, some (.cells [lj 0, li .u8 0, lj 0, lj 0, lj 0, ls be, lj 0, ls be, lj 0, ls be, lj 0, ls be])), (6, some (.cells [lj a1.ID, li .u8 i9, lj i2, lj i3, lj i6, ls s7, lj i10, ls s11, lj 0, ls be, lj 0, ls be]))] (.rd 1 [(24, qb true)] [] (.thenN (.seq (.condT (by kernel_rfl) (.skip (.thenN (.seq (.block (.sr 5 [(7, qj 2), (8, qp 8 0), (26, .agg [lj a1.F.a2.N, ls a1.F.a2.Text]), (25, qj 2)] [(8, some (.cells [lj a1.F.a2.N, ls a1.F.a2.Text])), (8, some (.cells [lj 0, ls be]))] (.st 5 [(31, .agg [lj a1.F.a2.N, ls a1.F.a2.Text]), (30, .agg [lj a0.F.a2.N, ls a0.F.a2.Text]), (29, qp 2 7), (28, qp 2 3), (27, qj 2)] [] (.step ⟨some 32, POp.prim (Prim.bin BinOp.neq 25 false false) [Operand.tmp 30, Operand.tmp 31], none, [(30, Hint.imm), (31, Hint.imm)]⟩ [(32, qb (!(Field.eqb a0.F.a2 a1.F.a2)))] [] (by kernel_rfl) (pOp_eff (by kernel_rfl) (by kernel_rfl) (eff_prim (by kernel_rfl) (Field_eqn a0.F.a2 a1.F.a2 _ _))) (.dn (.thenN (.cond (!(Field.eqb a0.F.a2 a1.F.a2)) (by kernel_rfl) ?_ ?_))))))))))))))))
    · refine Sim.sr 7 [(38, qp 6 1), (37, .one (li .u8 (bitsI .or .u8 i9 (shlI .u8 2 2)))), (36, .one (li .u8 (shlI .u8 2 2))), (35, qj 2), (34, .one (li .u8 i9)), (33, qp 6 1)] [(6, some (.cells [lj a1.ID, li .u8 (bitsI .or .u8 i9 (shlI .u8 2 2)), lj i2, lj i3, lj i6, ls s7, lj i10, ls s11, lj 0, ls be, lj 0, ls be]))] (.region0 (.rd 5 [(42, qp 6 8), (41, qp 6 4), (40, .agg [lj a1.F.a2.N, ls a1.F.a2.Text]), (39, qj 2)] [(6, some (.cells [lj a1.ID, li .u8 (bitsI .or .u8 i9 (shlI .u8 2 2)), lj i2, lj i3, lj i6, ls s7, lj i10, ls s11, lj a1.F.a2.N, ls a1.F.a2.Text, lj 0, ls be]))] (.blockN (.thenN (.region0 (.rd 2 [(23, qj 3), (43, qj 3)] [] (.loopN (.pr [2, 4, 6, 22, 23] [2, 3, 4, 6, 8] [] [(2, qp 2 0), (4, qp 4 0), (6, qp 6 0), (22, .agg (A4_Field.cells a1.F)), (23, qj 3)] [(2, some (.cells (Thing.cells a0))), (4, some (.cells [lj 0, li .u8 0, lj 0, lj 0, lj 0, ls be, lj 0, ls be, lj 0, ls be, lj 0, ls be])), (6, some (.cells [lj a1.ID, li .u8 (bitsI .or .u8 i9 (shlI .u8 2 2)), lj i2, lj i3, lj i6, ls s7, lj i10, ls s11, lj a1.F.a2.N, ls a1.F.a2.Text, lj 0, ls be]))] ?_))))))))
      exact F76_u16_ok n a0 a1 i2 i3 i6 s7 i10 s11 (bitsI .or .u8 i9 (shlI .u8 2 2)) a1.F.a2.N a1.F.a2.Text
    · refine Sim.skip (.blockN (.thenN (.region0 (.rd 2 [(23, qj 3), (43, qj 3)] [] (.loopN (.pr [2, 4, 6, 22, 23] [2, 3, 4, 6, 8] [] [(2, qp 2 0), (4, qp 4 0), (6, qp 6 0), (22, .agg (A4_Field.cells a1.F)), (23, qj 3)] [(2, some (.cells (Thing.cells a0))), (4, some (.cells [lj 0, li .u8 0, lj 0, lj 0, lj 0, ls be, lj 0, ls be, lj 0, ls be, lj 0, ls be])), (6, some (.cells [lj a1.ID, li .u8 i9, lj i2, lj i3, lj i6, ls s7, lj i10, ls s11, lj 0, ls be, lj 0, ls be]))] ?_))))))
      exact F76_u16_ok n a0 a1 i2 i3 i6 s7 i10 s11 i9 0 be

def F76_u8 (n : Nat) (a0 : Thing) (a1 : Thing) (i2 : Int) (i3 : Int) (i5 : Int) (i6 : Int) (s7 : ByteArray) : Option (Delta × Bool) :=
    if !(Field.eqb a0.F.a1 a1.F.a1) then
      F76_u12 n a0 a1 i2 i3 i6 s7 (bitsI .or .u8 i5 (shlI .u8 2 1)) a1.F.a1.N a1.F.a1.Text
    else
      F76_u12 n a0 a1 i2 i3 i6 s7 i5 0 ByteArray.empty
theorem F76_u8_ok (n : Nat) (a0 : Thing) (a1 : Thing) (i2 : Int) (i3 : Int) (i5 : Int) (i6 : Int) (s7 : ByteArray) : SimL Try.prog D (n + 8) (n + 7) pc76_c26 [(2, qp 2 0), (4, qp 4 0), (6, qp 6 0), (22, .agg (A4_Field.cells a1.F)), (23, qj 1)] [(2, some (.cells (Thing.cells a0))), (4, some (.cells [lj 0, li .u8 0, lj 0, lj 0, lj 0, ls be, lj 0, ls be, lj 0, ls be, lj 0, ls be])), (6, some (.cells [lj a1.ID, li .u8 i5, lj i2, lj i3, lj i6, ls s7, lj 0, ls be, lj 0, ls be, lj 0, ls be]))] (F76_u8 n a0 a1 i2 i3 i5 i6 s7) (QB 0 (QT Try.prog D (n + 8) pc76_c32 (QF false pc76_r 0 F76_e))) := by
    unfold F76_u8
    refine SimL.succ (.seq (.rg [(2, qp 2 0), (4, qp 4 0), (6, qp 6 0), (22, .agg (A4_Field.cells a1.F)), (23, qj 1)] [(2, some (.cells (Thing.cells a0))), (4, some (.cells [lj 0, li .u8 0, lj 0, lj 0, lj 0, ls be, lj 0, ls be, lj 0, ls be, lj 0, ls be])), (6, some (.cells [lj a1.ID, li .u8 i5, lj i2, lj i3, lj i6, ls s7, lj 0, ls be, lj 0, ls be, lj 0, ls be]))] (.rd 1 [(24, qb true)] [] (.thenN (.seq (.condT (by kernel_rfl) (.skip (.thenN (.seq (.block (.sr 5 [(7, qj 1), (8, qp 8 0), (26, .agg [lj a1.F.a1.N, ls a1.F.a1.Text]), (25, qj 1)] [(8, some (.cells [lj a1.F.a1.N, ls a1.F.a1.Text])), (8, some (.cells [lj 0, ls be]))] (.st 5 [(31, .agg [lj a1.F.a1.N, ls a1.F.a1.Text]), (30, .agg [lj a0.F.a1.N, ls a0.F.a1.Text]), (29, qp 2 5), (28, qp 2 3), (27, qj 1)] [] (.step ⟨some 32, POp.prim (Prim.bin BinOp.neq 25 false false) [Operand.tmp 30, Operand.tmp 31], none, [(30, Hint.imm), (31, Hint.imm)]⟩ [(32, qb (!(Field.eqb a0.F.a1 a1.F.a1)))] [] (by kernel_rfl) (pOp_eff (by kernel_rfl) (by kernel_rfl) (eff_prim (by kernel_rfl) (Field_eqn a0.F.a1 a1.F.a1 _ _))) (.dn (.thenN (.cond (!(Field.eqb a0.F.a1 a1.F.a1)) (by kernel_rfl) ?_ ?_))))))))))))))))
    · refine Sim.sr 7 [(38, qp 6 1), (37, .one (li .u8 (bitsI .or .u8 i5 (shlI .u8 2 1)))), (36, .one (li .u8 (shlI .u8 2 1))), (35, qj 1), (34, .one (li .u8 i5)), (33, qp 6 1)] [(6, some (.cells [lj a1.ID, li .u8 (bitsI .or .u8 i5 (shlI .u8 2 1)), lj i2, lj i3, lj i6, ls s7, lj 0, ls be, lj 0, ls be, lj 0, ls be]))] (.region0 (.rd 5 [(42, qp 6 6), (41, qp 6 4), (40, .agg [lj a1.F.a1.N, ls a1.F.a1.Text]), (39, qj 1)] [(6, some (.cells [lj a1.ID, li .u8 (bitsI .or .u8 i5 (shlI .u8 2 1)), lj i2, lj i3, lj i6, ls s7, lj a1.F.a1.N, ls a1.F.a1.Text, lj 0, ls be, lj 0, ls be]))] (.blockN (.thenN (.region0 (.rd 2 [(23, qj 2), (43, qj 2)] [] (.loopN (.pr [2, 4, 6, 22, 23] [2, 3, 4, 6, 8] [] [(2, qp 2 0), (4, qp 4 0), (6, qp 6 0), (22, .agg (A4_Field.cells a1.F)), (23, qj 2)] [(2, some (.cells (Thing.cells a0))), (4, some (.cells [lj 0, li .u8 0, lj 0, lj 0, lj 0, ls be, lj 0, ls be, lj 0, ls be, lj 0, ls be])), (6, some (.cells [lj a1.ID, li .u8 (bitsI .or .u8 i5 (shlI .u8 2 1)), lj i2, lj i3, lj i6, ls s7, lj a1.F.a1.N, ls a1.F.a1.Text, lj 0, ls be, lj 0, ls be]))] ?_))))))))
      exact F76_u12_ok n a0 a1 i2 i3 i6 s7 (bitsI .or .u8 i5 (shlI .u8 2 1)) a1.F.a1.N a1.F.a1.Text
    · refine Sim.skip (.blockN (.thenN (.region0 (.rd 2 [(23, qj 2), (43, qj 2)] [] (.loopN (.pr [2, 4, 6, 22, 23] [2, 3, 4, 6, 8] [] [(2, qp 2 0), (4, qp 4 0), (6, qp 6 0), (22, .agg (A4_Field.cells a1.F)), (23, qj 2)] [(2, some (.cells (Thing.cells a0))), (4, some (.cells [lj 0, li .u8 0, lj 0, lj 0, lj 0, ls be, lj 0, ls be, lj 0, ls be, lj 0, ls be])), (6, some (.cells [lj a1.ID, li .u8 i5, lj i2, lj i3, lj i6, ls s7, lj 0, ls be, lj 0, ls be, lj 0, ls be]))] ?_))))))
      exact F76_u12_ok n a0 a1 i2 i3 i6 s7 i5 0 be

def F76_j4 (n : Nat) (a0 : Thing) (a1 : Thing) (i1 : Int) (i2 : Int) (i3 : Int) : Option (Delta × Bool) :=
    if !(Field.eqb a0.F.a0 a1.F.a0) then
      F76_u8 n a0 a1 i2 i3 (bitsI .or .u8 i1 (shlI .u8 2 0)) a1.F.a0.N a1.F.a0.Text
    else
      F76_u8 n a0 a1 i2 i3 i1 0 ByteArray.empty
theorem F76_j4_ok (n : Nat) (a0 : Thing) (a1 : Thing) (i1 : Int) (i2 : Int) (i3 : Int) : Sim Try.prog D (n + 8) pc76_c33 [(2, qp 2 0), (3, qp 3 0), (4, qp 4 0), (6, qp 6 0)] [(2, some (.cells (Thing.cells a0))), (3, some (.cells (Thing.cells a1))), (4, some (.cells [lj 0, li .u8 0, lj 0, lj 0, lj 0, ls be, lj 0, ls be, lj 0, ls be, lj 0, ls be])), (6, some (.cells [lj a1.ID, li .u8 i1, lj i2, lj i3, lj 0, ls be, lj 0, ls be, lj 0, ls be, lj 0, ls be]))] (F76_j4 n a0 a1 i1 i2 i3) (QF false pc76_r 0 F76_e) := by
    unfold F76_j4
    refine Sim.seq (.seq (.rg [(2, qp 2 0), (3, qp 3 0), (4, qp 4 0), (6, qp 6 0)] [(2, some (.cells (Thing.cells a0))), (3, some (.cells (Thing.cells a1))), (4, some (.cells [lj 0, li .u8 0, lj 0, lj 0, lj 0, ls be, lj 0, ls be, lj 0, ls be, lj 0, ls be])), (6, some (.cells [lj a1.ID, li .u8 i1, lj i2, lj i3, lj 0, ls be, lj 0, ls be, lj 0, ls be, lj 0, ls be]))] (.rd 3 [(23, qj 0), (22, .agg (A4_Field.cells a1.F)), (21, qp 3 3)] [] (.thenN (.block (.loop (.succ (.seq (.rg [(2, qp 2 0), (4, qp 4 0), (6, qp 6 0), (22, .agg (A4_Field.cells a1.F)), (23, qj 0)] [(2, some (.cells (Thing.cells a0))), (4, some (.cells [lj 0, li .u8 0, lj 0, lj 0, lj 0, ls be, lj 0, ls be, lj 0, ls be, lj 0, ls be])), (6, some (.cells [lj a1.ID, li .u8 i1, lj i2, lj i3, lj 0, ls be, lj 0, ls be, lj 0, ls be, lj 0, ls be]))] (.rd 1 [(24, qb true)] [] (.thenN (.seq (.condT (by kernel_rfl) (.skip (.thenN (.seq (.block (.sr 5 [(7, qj 0), (8, qp 8 0), (26, .agg [lj a1.F.a0.N, ls a1.F.a0.Text]), (25, qj 0)] [(8, some (.cells [lj a1.F.a0.N, ls a1.F.a0.Text])), (8, some (.cells [lj 0, ls be]))] (.st 5 [(31, .agg [lj a1.F.a0.N, ls a1.F.a0.Text]), (30, .agg [lj a0.F.a0.N, ls a0.F.a0.Text]), (29, qp 2 3), (28, qp 2 3), (27, qj 0)] [] (.step ⟨some 32, POp.prim (Prim.bin BinOp.neq 25 false false) [Operand.tmp 30, Operand.tmp 31], none, [(30, Hint.imm), (31, Hint.imm)]⟩ [(32, qb (!(Field.eqb a0.F.a0 a1.F.a0)))] [] (by kernel_rfl) (pOp_eff (by kernel_rfl) (by kernel_rfl) (eff_prim (by kernel_rfl) (Field_eqn a0.F.a0 a1.F.a0 _ _))) (.dn (.thenN (.cond (!(Field.eqb a0.F.a0 a1.F.a0)) (by kernel_rfl) ?_ ?_)))))))))))))))))))))))
    · refine Sim.sr 7 [(38, qp 6 1), (37, .one (li .u8 (bitsI .or .u8 i1 (shlI .u8 2 0)))), (36, .one (li .u8 (shlI .u8 2 0))), (35, qj 0), (34, .one (li .u8 i1)), (33, qp 6 1)] [(6, some (.cells [lj a1.ID, li .u8 (bitsI .or .u8 i1 (shlI .u8 2 0)), lj i2, lj i3, lj 0, ls be, lj 0, ls be, lj 0, ls be, lj 0, ls be]))] (.region0 (.rd 5 [(42, qp 6 4), (41, qp 6 4), (40, .agg [lj a1.F.a0.N, ls a1.F.a0.Text]), (39, qj 0)] [(6, some (.cells [lj a1.ID, li .u8 (bitsI .or .u8 i1 (shlI .u8 2 0)), lj i2, lj i3, lj a1.F.a0.N, ls a1.F.a0.Text, lj 0, ls be, lj 0, ls be, lj 0, ls be]))] (.blockN (.thenN (.region0 (.rd 2 [(23, qj 1), (43, qj 1)] [] (.loopN (.pr [2, 4, 6, 22, 23] [2, 3, 4, 6, 8] [] [(2, qp 2 0), (4, qp 4 0), (6, qp 6 0), (22, .agg (A4_Field.cells a1.F)), (23, qj 1)] [(2, some (.cells (Thing.cells a0))), (4, some (.cells [lj 0, li .u8 0, lj 0, lj 0, lj 0, ls be, lj 0, ls be, lj 0, ls be, lj 0, ls be])), (6, some (.cells [lj a1.ID, li .u8 (bitsI .or .u8 i1 (shlI .u8 2 0)), lj i2, lj i3, lj a1.F.a0.N, ls a1.F.a0.Text, lj 0, ls be, lj 0, ls be, lj 0, ls be]))] ?_))))))))
      exact F76_u8_ok n a0 a1 i2 i3 (bitsI .or .u8 i1 (shlI .u8 2 0)) a1.F.a0.N a1.F.a0.Text
    · refine Sim.skip (.blockN (.thenN (.region0 (.rd 2 [(23, qj 1), (43, qj 1)] [] (.loopN (.pr [2, 4, 6, 22, 23] [2, 3, 4, 6, 8] [] [(2, qp 2 0), (4, qp 4 0), (6, qp 6 0), (22, .agg (A4_Field.cells a1.F)), (23, qj 1)] [(2, some (.cells (Thing.cells a0))), (4, some (.cells [lj 0, li .u8 0, lj 0, lj 0, lj 0, ls be, lj 0, ls be, lj 0, ls be, lj 0, ls be])), (6, some (.cells [lj a1.ID, li .u8 i1, lj i2, lj i3, lj 0, ls be, lj 0, ls be, lj 0, ls be, lj 0, ls be]))] ?_))))))
      exact F76_u8_ok n a0 a1 i2 i3 i1 0 be

def F76 (n : Nat) (a0 : Thing) (a1 : Thing) : Option (Delta × Bool) :=
  if !(Point.eqb a0.At a1.At) then
    F76_j4 n a0 a1 1 a1.At.X a1.At.Y
  else
    F76_j4 n a0 a1 0 0 0
theorem F76_ok (n : Nat) (a0 : Thing) (a1 : Thing) : ∀ r, F76 n a0 a1 = some r → D 76 [.agg (Thing.cells a0), .agg (Thing.cells a1)] [] = some (F76_e r) := by
  refine fn_to (D := D) (n := n + 8) (nt := 48) (rs := pc76_r) (c := pc76_c36) (L := [(0, .agg (Thing.cells a0)), (1, .agg (Thing.cells a1))]) (M := []) (k := 0) rfl rfl rfl rfl rfl rfl rfl ?_
  unfold F76
  refine Sim.sr 4 [(5, qb false), (4, qp 4 0), (3, qp 3 0), (2, qp 2 0)] [(4, some (.cells [lj 0, li .u8 0, lj 0, lj 0, lj 0, ls be, lj 0, ls be, lj 0, ls be, lj 0, ls be])), (3, some (.cells (Thing.cells a1))), (2, some (.cells (Thing.cells a0)))] (.sr 5 [(6, qp 6 0), (11, .agg [lj a1.ID, li .u8 0, lj 0, lj 0, lj 0, ls be, lj 0, ls be, lj 0, ls be, lj 0, ls be]), (10, qj a1.ID), (9, qp 3 0)] [(6, some (.cells [lj a1.ID, li .u8 0, lj 0, lj 0, lj 0, ls be, lj 0, ls be, lj 0, ls be, lj 0, ls be])), (6, some (.cells [lj 0, li .u8 0, lj 0, lj 0, lj 0, ls be, lj 0, ls be, lj 0, ls be, lj 0, ls be]))] (.seq (.st 4 [(15, .agg [lj a1.At.X, lj a1.At.Y]), (14, qp 3 1), (13, .agg [lj a0.At.X, lj a0.At.Y]), (12, qp 2 1)] [] (.step ⟨some 16, POp.prim (Prim.bin BinOp.neq 23 false false) [Operand.tmp 13, Operand.tmp 15], none, []⟩ [(16, qb (!(Point.eqb a0.At a1.At)))] [] (by kernel_rfl) (pOp_eff (by kernel_rfl) (by kernel_rfl) (eff_prim (by kernel_rfl) (Point_eqn a0.At a1.At _ _))) (.dn (.thenN (.cond (!(Point.eqb a0.At a1.At)) (by kernel_rfl) ?_ ?_)))))))
  · refine Sim.region0 (.rd 6 [(20, qp 6 2), (19, qp 6 1), (18, .agg [lj a1.At.X, lj a1.At.Y]), (17, qp 3 1)] [(6, some (.cells [lj a1.ID, li .u8 1, lj a1.At.X, lj a1.At.Y, lj 0, ls be, lj 0, ls be, lj 0, ls be, lj 0, ls be])), (6, some (.cells [lj a1.ID, li .u8 1, lj 0, lj 0, lj 0, ls be, lj 0, ls be, lj 0, ls be, lj 0, ls be]))] (.thenN (.pr [2, 3, 4, 6] [2, 3, 4, 6] [] [(2, qp 2 0), (3, qp 3 0), (4, qp 4 0), (6, qp 6 0)] [(2, some (.cells (Thing.cells a0))), (3, some (.cells (Thing.cells a1))), (4, some (.cells [lj 0, li .u8 0, lj 0, lj 0, lj 0, ls be, lj 0, ls be, lj 0, ls be, lj 0, ls be])), (6, some (.cells [lj a1.ID, li .u8 1, lj a1.At.X, lj a1.At.Y, lj 0, ls be, lj 0, ls be, lj 0, ls be, lj 0, ls be]))] ?_)))
    exact F76_j4_ok n a0 a1 1 a1.At.X a1.At.Y
  · refine Sim.skip (.thenN (.pr [2, 3, 4, 6] [2, 3, 4, 6] [] [(2, qp 2 0), (3, qp 3 0), (4, qp 4 0), (6, qp 6 0)] [(2, some (.cells (Thing.cells a0))), (3, some (.cells (Thing.cells a1))), (4, some (.cells [lj 0, li .u8 0, lj 0, lj 0, lj 0, ls be, lj 0, ls be, lj 0, ls be, lj 0, ls be])), (6, some (.cells [lj a1.ID, li .u8 0, lj 0, lj 0, lj 0, ls be, lj 0, ls be, lj 0, ls be, lj 0, ls be]))] ?_))
    exact F76_j4_ok n a0 a1 0 0 0


-- 38: vedette/diff.Of
def F38_e : (List Event) → PV × List Ob := fun r => (.one (vw Event.cod r), [])
def F38_j16 (n : Nat) (l9 : (List Thing)) (l10 : (List Thing)) (l11 : (List Event)) (rec_l12 : (List Thing) → (List Thing) → (List Event) → Option (List Event)) : Option (List Event) :=
    (ix l10 0).bind fun (x17 : Thing) =>
    (ix l10 0).bind fun (x18 : Thing) =>
    if ((l11).length + 1) * 264 ≤ maxCells ∧ (l11).length + 1 ≤ maxCells then
      if 0 ≤ (1 : Int) ∧ (1 : Int) ≤ ((l10).length : Int) ∧ ((l10).length : Int) ≤ ((l10).length : Int) then
        rec_l12 l9 (((l10).drop 1).take ((l10).length - 1)) (l11 ++ [(Event.mk 1 x17.ID x18 (Delta.mk 0 0 (Point.mk 0 0) (A4.mk (Field.mk 0 ByteArray.empty) (Field.mk 0 ByteArray.empty) (Field.mk 0 ByteArray.empty) (Field.mk 0 ByteArray.empty))))])
      else none
    else none
theorem F38_j16_ok (n : Nat) (a0 : (List Thing)) (a1 : Rect) (a2 : (List Thing)) (a3 : Rect) (l9 : (List Thing)) (l10 : (List Thing)) (l11 : (List Event)) (rec_l12 : (List Thing) → (List Thing) → (List Event) → Option (List Event)) (m_l12 : Nat) (ih_l12 : ∀ (l9 : (List Thing)) (l10 : (List Thing)) (l11 : (List Event)), SimL Try.prog D (n + 8) m_l12 pc38_c31 [(9, .one (vw Thing.cod l9)), (10, .one (vw Thing.cod l10)), (11, .one (.osl 100011 0 0 (l11).length))] [(100011, some (.arr 67 Event.cod.sz 0 (l11).length (getOf Event.cod l11)))] (rec_l12 l9 l10 l11) (QB 0 (QT Try.prog D (n + 8) pc38_c36 (QF false pc38_r 0 F38_e)))) : Sim Try.prog D (n + 8) pc38_c10 [(9, .one (vw Thing.cod l9)), (10, .one (vw Thing.cod l10)), (11, .one (.osl 100011 0 0 (l11).length))] [(100011, some (.arr 67 Event.cod.sz 0 (l11).length (getOf Event.cod l11)))] (F38_j16 n l9 l10 l11 rec_l12) (QB 2 (QB 1 (QL Try.prog D (n + 8) m_l12 pc38_c31 (QB 0 (QT Try.prog D (n + 8) pc38_c36 (QF false pc38_r 0 F38_e)))))) := by
    unfold F38_j16
    refine Sim.seq (.rg [(9, .one (vw Thing.cod l9)), (10, .one (vw Thing.cod l10)), (11, .one (.osl 100011 0 0 (l11).length))] [(100011, some (.arr 67 Event.cod.sz 0 (l11).length (getOf Event.cod l11)))] (.rn 2 [(72, .one (vw Thing.cod l10)), (71, .one (.osl 100011 0 0 (l11).length))] [] (.bind (og := ix l10 0) ⟨some 73, POp.iaddrS 11 (Operand.tmp 72) (Operand.const (Value.int IntKind.i64 0)), none, [(72, Hint.imm)]⟩ (fun x17 => [(73, .one (.eptr (Thing.cod.enc x17) 0))]) (fun x17 => []) (by kernel_rfl) (fun x17 hr => pOp_eff (by kernel_rfl) (by kernel_rfl) (eff_idx (c := Thing.cod) (l := l10) (k := .i64) (n := 0) (by kernel_rfl) (by kernel_rfl) (by kernel_rfl) hr)) (fun x17 => ?_))))
    refine SimI.rn 3 [(76, .one (vw Thing.cod l10)), (75, qj x17.ID), (74, .one (.eptr (Thing.cod.enc x17) 0))] [] (.bind (og := ix l10 0) ⟨some 77, POp.iaddrS 11 (Operand.tmp 76) (Operand.const (Value.int IntKind.i64 0)), none, [(76, Hint.imm)]⟩ (fun x18 => [(77, .one (.eptr (Thing.cod.enc x18) 0))]) (fun x18 => []) (by kernel_rfl) (fun x18 hr => pOp_eff (by kernel_rfl) (by kernel_rfl) (eff_idx (c := Thing.cod) (l := l10) (k := .i64) (n := 0) (by kernel_rfl) (by kernel_rfl) (by kernel_rfl) hr)) (fun x18 => ?_))
    refine SimI.rn 3 [(80, .one (vw Event.cod [(Event.mk 1 x17.ID x18 (Delta.mk 0 0 (Point.mk 0 0) (A4.mk (Field.mk 0 be) (Field.mk 0 be) (Field.mk 0 be) (Field.mk 0 be))))])), (79, .agg [lj 1, lj x17.ID, lj x18.ID, lj x18.At.X, lj x18.At.Y, lj x18.F.a0.N, ls x18.F.a0.Text, lj x18.F.a1.N, ls x18.F.a1.Text, lj x18.F.a2.N, ls x18.F.a2.Text, lj x18.F.a3.N, ls x18.F.a3.Text, lj 0, li .u8 0, lj 0, lj 0, lj 0, ls be, lj 0, ls be, lj 0, ls be, lj 0, ls be]), (78, .agg (Thing.cells x18))] [] (.guard (c := ((l11).length + 1) * 264 ≤ maxCells ∧ (l11).length + 1 ≤ maxCells) ⟨some 81, POp.app 100011 67 25 264 (Operand.tmp 71) (Operand.tmp 80), none, [(71, Hint.obj 100011), (80, Hint.imm)]⟩ [(81, .one (.osl 100011 (0 + 1) 0 ((l11 ++ [(Event.mk 1 x17.ID x18 (Delta.mk 0 0 (Point.mk 0 0) (A4.mk (Field.mk 0 be) (Field.mk 0 be) (Field.mk 0 be) (Field.mk 0 be))))])).length))] [(100011, some (.arr 67 Event.cod.sz (0 + 1) ((l11 ++ [(Event.mk 1 x17.ID x18 (Delta.mk 0 0 (Point.mk 0 0) (A4.mk (Field.mk 0 be) (Field.mk 0 be) (Field.mk 0 be) (Field.mk 0 be))))])).length (getOf Event.cod (l11 ++ [(Event.mk 1 x17.ID x18 (Delta.mk 0 0 (Point.mk 0 0) (A4.mk (Field.mk 0 be) (Field.mk 0 be) (Field.mk 0 be) (Field.mk 0 be))))]))))] (by kernel_rfl) (fun hc => pOp_eff (by kernel_rfl) (by kernel_rfl) (eff_appO (c := Event.cod) (g := 0) (l := l11) (a := (Event.mk 1 x17.ID x18 (Delta.mk 0 0 (Point.mk 0 0) (A4.mk (Field.mk 0 be) (Field.mk 0 be) (Field.mk 0 be) (Field.mk 0 be))))) (by kernel_rfl) (by kernel_rfl) (by kernel_rfl) (by kernel_rfl) hc)) (.rd 1 [(11, .one (.osl 100011 (0 + 1) 0 ((l11 ++ [(Event.mk 1 x17.ID x18 (Delta.mk 0 0 (Point.mk 0 0) (A4.mk (Field.mk 0 be) (Field.mk 0 be) (Field.mk 0 be) (Field.mk 0 be))))])).length))] [] (.thenN (.region0 (.rn 1 [(82, .one (vw Thing.cod l10))] [] (.guard (c := 0 ≤ (1 : Int) ∧ (1 : Int) ≤ ((l10).length : Int) ∧ ((l10).length : Int) ≤ ((l10).length : Int)) ⟨some 83, POp.slc 11 (Operand.tmp 82) (some (Operand.const (Value.int IntKind.i64 1))) none, none, []⟩ [(83, .one (vw Thing.cod (((l10).drop 1).take ((l10).length - 1))))] [] (by kernel_rfl) (fun hc => pOp_eff (by kernel_rfl) (by kernel_rfl) (eff_cut (c := Thing.cod) (l := l10) (a := 1) (b := (l10).length) (by kernel_rfl) (by kernel_rfl) (by kernel_rfl) (by kernel_rfl) (by omega) (by omega))) (.rd 1 [(10, .one (vw Thing.cod (((l10).drop 1).take ((l10).length - 1))))] [] (.blockN (.blockN (.loopN (.pr [9, 10, 11] [5, 7, 100011] [(false, 11, 0, 100011, 67, 25)] [(9, .one (vw Thing.cod l9)), (10, .one (vw Thing.cod (((l10).drop 1).take ((l10).length - 1)))), (11, .one (.osl 100011 0 0 ((l11 ++ [(Event.mk 1 x17.ID x18 (Delta.mk 0 0 (Point.mk 0 0) (A4.mk (Field.mk 0 be) (Field.mk 0 be) (Field.mk 0 be) (Field.mk 0 be))))])).length))] [(100011, some (.arr 67 Event.cod.sz 0 ((l11 ++ [(Event.mk 1 x17.ID x18 (Delta.mk 0 0 (Point.mk 0 0) (A4.mk (Field.mk 0 be) (Field.mk 0 be) (Field.mk 0 be) (Field.mk 0 be))))])).length (getOf Event.cod (l11 ++ [(Event.mk 1 x17.ID x18 (Delta.mk 0 0 (Point.mk 0 0) (A4.mk (Field.mk 0 be) (Field.mk 0 be) (Field.mk 0 be) (Field.mk 0 be))))]))))] ?_)))))))))))
    exact ih_l12 l9 (((l10).drop 1).take ((l10).length - 1)) (l11 ++ [(Event.mk 1 x17.ID x18 (Delta.mk 0 0 (Point.mk 0 0) (A4.mk (Field.mk 0 be) (Field.mk 0 be) (Field.mk 0 be) (Field.mk 0 be))))])

def F38_j22 (n : Nat) (l9 : (List Thing)) (l10 : (List Thing)) (l11 : (List Event)) (rec_l12 : (List Thing) → (List Thing) → (List Event) → Option (List Event)) : Option (List Event) :=
    (ix l9 0).bind fun (x23 : Thing) =>
    if ((l11).length + 1) * 264 ≤ maxCells ∧ (l11).length + 1 ≤ maxCells then
      if 0 ≤ (1 : Int) ∧ (1 : Int) ≤ ((l9).length : Int) ∧ ((l9).length : Int) ≤ ((l9).length : Int) then
        rec_l12 (((l9).drop 1).take ((l9).length - 1)) l10 (l11 ++ [(Event.mk 3 x23.ID (Thing.mk 0 (Point.mk 0 0) (A4.mk (Field.mk 0 ByteArray.empty) (Field.mk 0 ByteArray.empty) (Field.mk 0 ByteArray.empty) (Field.mk 0 ByteArray.empty))) (Delta.mk 0 0 (Point.mk 0 0) (A4.mk (Field.mk 0 ByteArray.empty) (Field.mk 0 ByteArray.empty) (Field.mk 0 ByteArray.empty) (Field.mk 0 ByteArray.empty))))])
      else none
    else none
theorem F38_j22_ok (n : Nat) (l9 : (List Thing)) (l10 : (List Thing)) (l11 : (List Event)) (rec_l12 : (List Thing) → (List Thing) → (List Event) → Option (List Event)) (m_l12 : Nat) (ih_l12 : ∀ (l9 : (List Thing)) (l10 : (List Thing)) (l11 : (List Event)), SimL Try.prog D (n + 8) m_l12 pc38_c31 [(9, .one (vw Thing.cod l9)), (10, .one (vw Thing.cod l10)), (11, .one (.osl 100011 0 0 (l11).length))] [(100011, some (.arr 67 Event.cod.sz 0 (l11).length (getOf Event.cod l11)))] (rec_l12 l9 l10 l11) (QB 0 (QT Try.prog D (n + 8) pc38_c36 (QF false pc38_r 0 F38_e)))) : Sim Try.prog D (n + 8) pc38_c14 [(9, .one (vw Thing.cod l9)), (10, .one (vw Thing.cod l10)), (11, .one (.osl 100011 0 0 (l11).length))] [(100011, some (.arr 67 Event.cod.sz 0 (l11).length (getOf Event.cod l11)))] (F38_j22 n l9 l10 l11 rec_l12) (QB 2 (QB 1 (QL Try.prog D (n + 8) m_l12 pc38_c31 (QB 0 (QT Try.prog D (n + 8) pc38_c36 (QF false pc38_r 0 F38_e)))))) := by
    unfold F38_j22
    refine Sim.seq (.rg [(9, .one (vw Thing.cod l9)), (10, .one (vw Thing.cod l10)), (11, .one (.osl 100011 0 0 (l11).length))] [(100011, some (.arr 67 Event.cod.sz 0 (l11).length (getOf Event.cod l11)))] (.rn 2 [(100, .one (vw Thing.cod l9)), (99, .one (.osl 100011 0 0 (l11).length))] [] (.bind (og := ix l9 0) ⟨some 101, POp.iaddrS 11 (Operand.tmp 100) (Operand.const (Value.int IntKind.i64 0)), none, []⟩ (fun x23 => [(101, .one (.eptr (Thing.cod.enc x23) 0))]) (fun x23 => []) (by kernel_rfl) (fun x23 hr => pOp_eff (by kernel_rfl) (by kernel_rfl) (eff_idx (c := Thing.cod) (l := l9) (k := .i64) (n := 0) (by kernel_rfl) (by kernel_rfl) (by kernel_rfl) hr)) (fun x23 => ?_))))
    refine SimI.rn 4 [(105, .one (vw Event.cod [(Event.mk 3 x23.ID (Thing.mk 0 (Point.mk 0 0) (A4.mk (Field.mk 0 be) (Field.mk 0 be) (Field.mk 0 be) (Field.mk 0 be))) (Delta.mk 0 0 (Point.mk 0 0) (A4.mk (Field.mk 0 be) (Field.mk 0 be) (Field.mk 0 be) (Field.mk 0 be))))])), (104, .agg [lj 3, lj x23.ID, lj 0, lj 0, lj 0, lj 0, ls be, lj 0, ls be, lj 0, ls be, lj 0, ls be, lj 0, li .u8 0, lj 0, lj 0, lj 0, ls be, lj 0, ls be, lj 0, ls be, lj 0, ls be]), (103, qj x23.ID), (102, .one (.eptr (Thing.cod.enc x23) 0))] [] (.guard (c := ((l11).length + 1) * 264 ≤ maxCells ∧ (l11).length + 1 ≤ maxCells) ⟨some 106, POp.app 100011 67 25 264 (Operand.tmp 99) (Operand.tmp 105), none, []⟩ [(106, .one (.osl 100011 (0 + 1) 0 ((l11 ++ [(Event.mk 3 x23.ID (Thing.mk 0 (Point.mk 0 0) (A4.mk (Field.mk 0 be) (Field.mk 0 be) (Field.mk 0 be) (Field.mk 0 be))) (Delta.mk 0 0 (Point.mk 0 0) (A4.mk (Field.mk 0 be) (Field.mk 0 be) (Field.mk 0 be) (Field.mk 0 be))))])).length))] [(100011, some (.arr 67 Event.cod.sz (0 + 1) ((l11 ++ [(Event.mk 3 x23.ID (Thing.mk 0 (Point.mk 0 0) (A4.mk (Field.mk 0 be) (Field.mk 0 be) (Field.mk 0 be) (Field.mk 0 be))) (Delta.mk 0 0 (Point.mk 0 0) (A4.mk (Field.mk 0 be) (Field.mk 0 be) (Field.mk 0 be) (Field.mk 0 be))))])).length (getOf Event.cod (l11 ++ [(Event.mk 3 x23.ID (Thing.mk 0 (Point.mk 0 0) (A4.mk (Field.mk 0 be) (Field.mk 0 be) (Field.mk 0 be) (Field.mk 0 be))) (Delta.mk 0 0 (Point.mk 0 0) (A4.mk (Field.mk 0 be) (Field.mk 0 be) (Field.mk 0 be) (Field.mk 0 be))))]))))] (by kernel_rfl) (fun hc => pOp_eff (by kernel_rfl) (by kernel_rfl) (eff_appO (c := Event.cod) (g := 0) (l := l11) (a := (Event.mk 3 x23.ID (Thing.mk 0 (Point.mk 0 0) (A4.mk (Field.mk 0 be) (Field.mk 0 be) (Field.mk 0 be) (Field.mk 0 be))) (Delta.mk 0 0 (Point.mk 0 0) (A4.mk (Field.mk 0 be) (Field.mk 0 be) (Field.mk 0 be) (Field.mk 0 be))))) (by kernel_rfl) (by kernel_rfl) (by kernel_rfl) (by kernel_rfl) hc)) (.rd 1 [(11, .one (.osl 100011 (0 + 1) 0 ((l11 ++ [(Event.mk 3 x23.ID (Thing.mk 0 (Point.mk 0 0) (A4.mk (Field.mk 0 be) (Field.mk 0 be) (Field.mk 0 be) (Field.mk 0 be))) (Delta.mk 0 0 (Point.mk 0 0) (A4.mk (Field.mk 0 be) (Field.mk 0 be) (Field.mk 0 be) (Field.mk 0 be))))])).length))] [] (.thenN (.region0 (.rn 1 [(107, .one (vw Thing.cod l9))] [] (.guard (c := 0 ≤ (1 : Int) ∧ (1 : Int) ≤ ((l9).length : Int) ∧ ((l9).length : Int) ≤ ((l9).length : Int)) ⟨some 108, POp.slc 11 (Operand.tmp 107) (some (Operand.const (Value.int IntKind.i64 1))) none, none, []⟩ [(108, .one (vw Thing.cod (((l9).drop 1).take ((l9).length - 1))))] [] (by kernel_rfl) (fun hc => pOp_eff (by kernel_rfl) (by kernel_rfl) (eff_cut (c := Thing.cod) (l := l9) (a := 1) (b := (l9).length) (by kernel_rfl) (by kernel_rfl) (by kernel_rfl) (by kernel_rfl) (by omega) (by omega))) (.rd 1 [(9, .one (vw Thing.cod (((l9).drop 1).take ((l9).length - 1))))] [] (.blockN (.blockN (.loopN (.pr [9, 10, 11] [5, 7, 100011] [(false, 11, 0, 100011, 67, 25)] [(9, .one (vw Thing.cod (((l9).drop 1).take ((l9).length - 1)))), (10, .one (vw Thing.cod l10)), (11, .one (.osl 100011 0 0 ((l11 ++ [(Event.mk 3 x23.ID (Thing.mk 0 (Point.mk 0 0) (A4.mk (Field.mk 0 be) (Field.mk 0 be) (Field.mk 0 be) (Field.mk 0 be))) (Delta.mk 0 0 (Point.mk 0 0) (A4.mk (Field.mk 0 be) (Field.mk 0 be) (Field.mk 0 be) (Field.mk 0 be))))])).length))] [(100011, some (.arr 67 Event.cod.sz 0 ((l11 ++ [(Event.mk 3 x23.ID (Thing.mk 0 (Point.mk 0 0) (A4.mk (Field.mk 0 be) (Field.mk 0 be) (Field.mk 0 be) (Field.mk 0 be))) (Delta.mk 0 0 (Point.mk 0 0) (A4.mk (Field.mk 0 be) (Field.mk 0 be) (Field.mk 0 be) (Field.mk 0 be))))])).length (getOf Event.cod (l11 ++ [(Event.mk 3 x23.ID (Thing.mk 0 (Point.mk 0 0) (A4.mk (Field.mk 0 be) (Field.mk 0 be) (Field.mk 0 be) (Field.mk 0 be))) (Delta.mk 0 0 (Point.mk 0 0) (A4.mk (Field.mk 0 be) (Field.mk 0 be) (Field.mk 0 be) (Field.mk 0 be))))]))))] ?_)))))))))))
    exact ih_l12 (((l9).drop 1).take ((l9).length - 1)) l10 (l11 ++ [(Event.mk 3 x23.ID (Thing.mk 0 (Point.mk 0 0) (A4.mk (Field.mk 0 be) (Field.mk 0 be) (Field.mk 0 be) (Field.mk 0 be))) (Delta.mk 0 0 (Point.mk 0 0) (A4.mk (Field.mk 0 be) (Field.mk 0 be) (Field.mk 0 be) (Field.mk 0 be))))])

def F38_j28 (n : Nat) (l9 : (List Thing)) (l10 : (List Thing)) (rec_l12 : (List Thing) → (List Thing) → (List Event) → Option (List Event)) (l27 : (List Event)) : Option (List Event) :=
    if 0 ≤ (1 : Int) ∧ (1 : Int) ≤ ((l9).length : Int) ∧ ((l9).length : Int) ≤ ((l9).length : Int) then
      if 0 ≤ (1 : Int) ∧ (1 : Int) ≤ ((l10).length : Int) ∧ ((l10).length : Int) ≤ ((l10).length : Int) then
        rec_l12 (((l9).drop 1).take ((l9).length - 1)) (((l10).drop 1).take ((l10).length - 1)) l27
      else none
    else none
theorem F38_j28_ok (n : Nat) (l9 : (List Thing)) (l10 : (List Thing)) (rec_l12 : (List Thing) → (List Thing) → (List Event) → Option (List Event)) (m_l12 : Nat) (ih_l12 : ∀ (l9 : (List Thing)) (l10 : (List Thing)) (l11 : (List Event)), SimL Try.prog D (n + 8) m_l12 pc38_c31 [(9, .one (vw Thing.cod l9)), (10, .one (vw Thing.cod l10)), (11, .one (.osl 100011 0 0 (l11).length))] [(100011, some (.arr 67 Event.cod.sz 0 (l11).length (getOf Event.cod l11)))] (rec_l12 l9 l10 l11) (QB 0 (QT Try.prog D (n + 8) pc38_c36 (QF false pc38_r 0 F38_e)))) (l27 : (List Event)) : Sim Try.prog D (n + 8) pc38_c22 [(9, .one (vw Thing.cod l9)), (10, .one (vw Thing.cod l10)), (11, .one (.osl 100011 0 0 (l27).length))] [(100011, some (.arr 67 Event.cod.sz 0 (l27).length (getOf Event.cod l27)))] (F38_j28 n l9 l10 rec_l12 l27) (QB 2 (QB 1 (QL Try.prog D (n + 8) m_l12 pc38_c31 (QB 0 (QT Try.prog D (n + 8) pc38_c36 (QF false pc38_r 0 F38_e)))))) := by
    unfold F38_j28
    refine Sim.rg [(9, .one (vw Thing.cod l9)), (10, .one (vw Thing.cod l10)), (11, .one (.osl 100011 0 0 (l27).length))] [(100011, some (.arr 67 Event.cod.sz 0 (l27).length (getOf Event.cod l27)))] (.rn 1 [(38, .one (vw Thing.cod l9))] [] (.guard (c := 0 ≤ (1 : Int) ∧ (1 : Int) ≤ ((l9).length : Int) ∧ ((l9).length : Int) ≤ ((l9).length : Int)) ⟨some 39, POp.slc 11 (Operand.tmp 38) (some (Operand.const (Value.int IntKind.i64 1))) none, none, [(38, Hint.imm)]⟩ [(39, .one (vw Thing.cod (((l9).drop 1).take ((l9).length - 1))))] [] (by kernel_rfl) (fun hc => pOp_eff (by kernel_rfl) (by kernel_rfl) (eff_cut (c := Thing.cod) (l := l9) (a := 1) (b := (l9).length) (by kernel_rfl) (by kernel_rfl) (by kernel_rfl) (by kernel_rfl) (by omega) (by omega))) (.rn 1 [(40, .one (vw Thing.cod l10))] [] (.guard (c := 0 ≤ (1 : Int) ∧ (1 : Int) ≤ ((l10).length : Int) ∧ ((l10).length : Int) ≤ ((l10).length : Int)) ⟨some 41, POp.slc 11 (Operand.tmp 40) (some (Operand.const (Value.int IntKind.i64 1))) none, none, [(40, Hint.imm)]⟩ [(41, .one (vw Thing.cod (((l10).drop 1).take ((l10).length - 1))))] [] (by kernel_rfl) (fun hc => pOp_eff (by kernel_rfl) (by kernel_rfl) (eff_cut (c := Thing.cod) (l := l10) (a := 1) (b := (l10).length) (by kernel_rfl) (by kernel_rfl) (by kernel_rfl) (by kernel_rfl) (by omega) (by omega))) (.rd 2 [(10, .one (vw Thing.cod (((l10).drop 1).take ((l10).length - 1)))), (9, .one (vw Thing.cod (((l9).drop 1).take ((l9).length - 1))))] [] (.blockN (.blockN (.loopN (.pr [9, 10, 11] [5, 7, 100011] [(false, 11, 0, 100011, 67, 25)] [(9, .one (vw Thing.cod (((l9).drop 1).take ((l9).length - 1)))), (10, .one (vw Thing.cod (((l10).drop 1).take ((l10).length - 1)))), (11, .one (.osl 100011 0 0 (l27).length))] [(100011, some (.arr 67 Event.cod.sz 0 (l27).length (getOf Event.cod l27)))] ?_)))))))))
    exact ih_l12 (((l9).drop 1).take ((l9).length - 1)) (((l10).drop 1).take ((l10).length - 1)) l27

def F38_j19 (n : Nat) (l9 : (List Thing)) (l10 : (List Thing)) (l11 : (List Event)) (rec_l12 : (List Thing) → (List Thing) → (List Event) → Option (List Event)) : Option (List Event) :=
    if ((l10).length : Int) == 0 then
      F38_j22 n l9 l10 l11 rec_l12
    else
      (ix l9 0).bind fun (x20 : Thing) =>
      (ix l10 0).bind fun (x21 : Thing) =>
      if decide (x20.ID < x21.ID) then
        F38_j22 n l9 l10 l11 rec_l12
      else
        (ix l9 0).bind fun (x24 : Thing) =>
        (ix l10 0).bind fun (x25 : Thing) =>
        (F76 n x24 x25).bind fun (r26 : (Delta × Bool)) =>
        if r26.2 then
          if ((l11).length + 1) * 264 ≤ maxCells ∧ (l11).length + 1 ≤ maxCells then
            F38_j28 n l9 l10 rec_l12 (l11 ++ [(Event.mk 2 r26.1.ID (Thing.mk 0 (Point.mk 0 0) (A4.mk (Field.mk 0 ByteArray.empty) (Field.mk 0 ByteArray.empty) (Field.mk 0 ByteArray.empty) (Field.mk 0 ByteArray.empty))) r26.1)])
          else none
        else
          F38_j28 n l9 l10 rec_l12 l11
theorem F38_j19_ok (n : Nat) (a0 : (List Thing)) (a1 : Rect) (a2 : (List Thing)) (a3 : Rect) (l9 : (List Thing)) (l10 : (List Thing)) (l11 : (List Event)) (rec_l12 : (List Thing) → (List Thing) → (List Event) → Option (List Event)) (m_l12 : Nat) (ih_l12 : ∀ (l9 : (List Thing)) (l10 : (List Thing)) (l11 : (List Event)), SimL Try.prog D (n + 8) m_l12 pc38_c31 [(9, .one (vw Thing.cod l9)), (10, .one (vw Thing.cod l10)), (11, .one (.osl 100011 0 0 (l11).length))] [(100011, some (.arr 67 Event.cod.sz 0 (l11).length (getOf Event.cod l11)))] (rec_l12 l9 l10 l11) (QB 0 (QT Try.prog D (n + 8) pc38_c36 (QF false pc38_r 0 F38_e)))) : Sim Try.prog D (n + 8) pc38_c25 [(9, .one (vw Thing.cod l9)), (10, .one (vw Thing.cod l10)), (11, .one (.osl 100011 0 0 (l11).length))] [(100011, some (.arr 67 Event.cod.sz 0 (l11).length (getOf Event.cod l11)))] (F38_j19 n l9 l10 l11 rec_l12) (QB 2 (QB 1 (QL Try.prog D (n + 8) m_l12 pc38_c31 (QB 0 (QT Try.prog D (n + 8) pc38_c36 (QF false pc38_r 0 F38_e)))))) := by
    unfold F38_j19
    refine Sim.seq (.rg [(9, .one (vw Thing.cod l9)), (10, .one (vw Thing.cod l10)), (11, .one (.osl 100011 0 0 (l11).length))] [(100011, some (.arr 67 Event.cod.sz 0 (l11).length (getOf Event.cod l11)))] (.rn 4 [(88, qb (((l10).length : Int) == 0)), (87, qb (((l10).length : Int) == 0)), (86, qj ((l10).length : Int)), (85, .one (vw Thing.cod l10))] [] (.split 88 (((l10).length : Int) == 0) (by kernel_rfl) ?_ ?_)))
    · refine SimI.rd 11 [(84, qb true), (98, qb true), (97, .tup []), (96, .tup []), (95, .tup []), (94, .tup []), (93, .tup []), (92, .tup []), (91, .tup []), (90, .tup []), (89, .tup [])] [] (.thenN (.condT (by kernel_rfl) (.pr [9, 10, 11] [100011] [] [(9, .one (vw Thing.cod l9)), (10, .one (vw Thing.cod l10)), (11, .one (.osl 100011 0 0 (l11).length))] [(100011, some (.arr 67 Event.cod.sz 0 (l11).length (getOf Event.cod l11)))] ?_)))
      exact F38_j22_ok n l9 l10 l11 rec_l12 m_l12 ih_l12
    · refine SimI.rn 1 [(89, .one (vw Thing.cod l9))] [] (.bind (og := ix l9 0) ⟨some 90, POp.iaddrS 11 (Operand.tmp 89) (Operand.const (Value.int IntKind.i64 0)), some (88, false), [(89, Hint.imm)]⟩ (fun x20 => [(90, .one (.eptr (Thing.cod.enc x20) 0))]) (fun x20 => []) (by kernel_rfl) (fun x20 hr => pOp_eff (by kernel_rfl) (by kernel_rfl) (eff_idx (c := Thing.cod) (l := l9) (k := .i64) (n := 0) (by kernel_rfl) (by kernel_rfl) (by kernel_rfl) hr)) (fun x20 => ?_))
      refine SimI.rn 3 [(93, .one (vw Thing.cod l10)), (92, qj x20.ID), (91, .one (.eptr (Thing.cod.enc x20) 0))] [] (.bind (og := ix l10 0) ⟨some 94, POp.iaddrS 11 (Operand.tmp 93) (Operand.const (Value.int IntKind.i64 0)), some (88, false), [(93, Hint.imm)]⟩ (fun x21 => [(94, .one (.eptr (Thing.cod.enc x21) 0))]) (fun x21 => []) (by kernel_rfl) (fun x21 hr => pOp_eff (by kernel_rfl) (by kernel_rfl) (eff_idx (c := Thing.cod) (l := l10) (k := .i64) (n := 0) (by kernel_rfl) (by kernel_rfl) (by kernel_rfl) hr)) (fun x21 => ?_))
      refine SimI.rd 5 [(84, qb (decide (x20.ID < x21.ID))), (98, qb (decide (x20.ID < x21.ID))), (97, qb (decide (x20.ID < x21.ID))), (96, qj x21.ID), (95, .one (.eptr (Thing.cod.enc x21) 0))] [] (.thenN (.cond (decide (x20.ID < x21.ID)) (by kernel_rfl) ?_ ?_))
      · refine Sim.pr [9, 10, 11] [100011] [] [(9, .one (vw Thing.cod l9)), (10, .one (vw Thing.cod l10)), (11, .one (.osl 100011 0 0 (l11).length))] [(100011, some (.arr 67 Event.cod.sz 0 (l11).length (getOf Event.cod l11)))] ?_
        exact F38_j22_ok n l9 l10 l11 rec_l12 m_l12 ih_l12
      · refine Sim.seq (.st 1 [(21, .one (vw Thing.cod l9))] [] (.bind (og := ix l9 0) ⟨some 22, POp.iaddrS 11 (Operand.tmp 21) (Operand.const (Value.int IntKind.i64 0)), none, [(21, Hint.imm)]⟩ (fun x24 => [(22, .one (.eptr (Thing.cod.enc x24) 0))]) (fun x24 => []) (by kernel_rfl) (fun x24 hr => pOp_eff (by kernel_rfl) (by kernel_rfl) (eff_idx (c := Thing.cod) (l := l9) (k := .i64) (n := 0) (by kernel_rfl) (by kernel_rfl) (by kernel_rfl) hr)) (fun x24 => ?_)))
        refine SimI.rn 2 [(24, .one (vw Thing.cod l10)), (23, .agg (Thing.cells x24))] [] (.bind (og := ix l10 0) ⟨some 25, POp.iaddrS 11 (Operand.tmp 24) (Operand.const (Value.int IntKind.i64 0)), none, [(24, Hint.imm)]⟩ (fun x25 => [(25, .one (.eptr (Thing.cod.enc x25) 0))]) (fun x25 => []) (by kernel_rfl) (fun x25 hr => pOp_eff (by kernel_rfl) (by kernel_rfl) (eff_idx (c := Thing.cod) (l := l10) (k := .i64) (n := 0) (by kernel_rfl) (by kernel_rfl) (by kernel_rfl) hr)) (fun x25 => ?_))
        refine SimI.rn 1 [(26, .agg (Thing.cells x25))] [] (.bind (og := F76 n x24 x25) ⟨some 27, POp.call false [[], []] 76 [Operand.tmp 23, Operand.tmp 26], none, [(23, Hint.imm), (26, Hint.imm)]⟩ (fun r26 => [(27, .tup [.agg (Delta.cells r26.1), qb r26.2])]) (fun r26 => []) (by kernel_rfl) (fun r26 hr => pOp_eff (by kernel_rfl) (by kernel_rfl) (eff_call (ARGS := [.agg (Thing.cells x24), .agg (Thing.cells x25)]) (by kernel_rfl) (args_clean (by kernel_rfl) (args_clean (by kernel_rfl) args_nil)) (F76_ok n x24 x25 r26 hr) (by kernel_rfl))) (fun r26 => ?_))
        refine SimI.rd 6 [(13, qb r26.2), (12, qp 12 0), (29, qb r26.2), (28, .agg (Delta.cells r26.1)), (20, .tup [.agg (Delta.cells r26.1), qb r26.2])] [(12, some (.cells (Delta.cells r26.1))), (12, some (.cells [lj 0, li .u8 0, lj 0, lj 0, lj 0, ls be, lj 0, ls be, lj 0, ls be, lj 0, ls be]))] (.thenN (.sr 1 [(30, qb r26.2)] [] (.cond r26.2 (by kernel_rfl) ?_ ?_)))
        · refine Sim.region0 (.rn 6 [(36, .one (vw Event.cod [(Event.mk 2 r26.1.ID (Thing.mk 0 (Point.mk 0 0) (A4.mk (Field.mk 0 be) (Field.mk 0 be) (Field.mk 0 be) (Field.mk 0 be))) r26.1)])), (35, .agg [lj 2, lj r26.1.ID, lj 0, lj 0, lj 0, lj 0, ls be, lj 0, ls be, lj 0, ls be, lj 0, ls be, lj r26.1.ID, li .u8 r26.1.Mask, lj r26.1.At.X, lj r26.1.At.Y, lj r26.1.F.a0.N, ls r26.1.F.a0.Text, lj r26.1.F.a1.N, ls r26.1.F.a1.Text, lj r26.1.F.a2.N, ls r26.1.F.a2.Text, lj r26.1.F.a3.N, ls r26.1.F.a3.Text]), (34, .agg (Delta.cells r26.1)), (33, qj r26.1.ID), (32, qp 12 0), (31, .one (.osl 100011 0 0 (l11).length))] [] (.guard (c := ((l11).length + 1) * 264 ≤ maxCells ∧ (l11).length + 1 ≤ maxCells) ⟨some 37, POp.app 100011 67 25 264 (Operand.tmp 31) (Operand.tmp 36), none, []⟩ [(37, .one (.osl 100011 (0 + 1) 0 ((l11 ++ [(Event.mk 2 r26.1.ID (Thing.mk 0 (Point.mk 0 0) (A4.mk (Field.mk 0 be) (Field.mk 0 be) (Field.mk 0 be) (Field.mk 0 be))) r26.1)])).length))] [(100011, some (.arr 67 Event.cod.sz (0 + 1) ((l11 ++ [(Event.mk 2 r26.1.ID (Thing.mk 0 (Point.mk 0 0) (A4.mk (Field.mk 0 be) (Field.mk 0 be) (Field.mk 0 be) (Field.mk 0 be))) r26.1)])).length (getOf Event.cod (l11 ++ [(Event.mk 2 r26.1.ID (Thing.mk 0 (Point.mk 0 0) (A4.mk (Field.mk 0 be) (Field.mk 0 be) (Field.mk 0 be) (Field.mk 0 be))) r26.1)]))))] (by kernel_rfl) (fun hc => pOp_eff (by kernel_rfl) (by kernel_rfl) (eff_appO (c := Event.cod) (g := 0) (l := l11) (a := (Event.mk 2 r26.1.ID (Thing.mk 0 (Point.mk 0 0) (A4.mk (Field.mk 0 be) (Field.mk 0 be) (Field.mk 0 be) (Field.mk 0 be))) r26.1)) (by kernel_rfl) (by kernel_rfl) (by kernel_rfl) (by kernel_rfl) hc)) (.rd 1 [(11, .one (.osl 100011 (0 + 1) 0 ((l11 ++ [(Event.mk 2 r26.1.ID (Thing.mk 0 (Point.mk 0 0) (A4.mk (Field.mk 0 be) (Field.mk 0 be) (Field.mk 0 be) (Field.mk 0 be))) r26.1)])).length))] [] (.thenN (.pr [9, 10, 11] [12, 100011] [(false, 11, 0, 100011, 67, 25)] [(9, .one (vw Thing.cod l9)), (10, .one (vw Thing.cod l10)), (11, .one (.osl 100011 0 0 ((l11 ++ [(Event.mk 2 r26.1.ID (Thing.mk 0 (Point.mk 0 0) (A4.mk (Field.mk 0 be) (Field.mk 0 be) (Field.mk 0 be) (Field.mk 0 be))) r26.1)])).length))] [(100011, some (.arr 67 Event.cod.sz 0 ((l11 ++ [(Event.mk 2 r26.1.ID (Thing.mk 0 (Point.mk 0 0) (A4.mk (Field.mk 0 be) (Field.mk 0 be) (Field.mk 0 be) (Field.mk 0 be))) r26.1)])).length (getOf Event.cod (l11 ++ [(Event.mk 2 r26.1.ID (Thing.mk 0 (Point.mk 0 0) (A4.mk (Field.mk 0 be) (Field.mk 0 be) (Field.mk 0 be) (Field.mk 0 be))) r26.1)]))))] ?_)))))
          exact F38_j28_ok n l9 l10 rec_l12 m_l12 ih_l12 (l11 ++ [(Event.mk 2 r26.1.ID (Thing.mk 0 (Point.mk 0 0) (A4.mk (Field.mk 0 be) (Field.mk 0 be) (Field.mk 0 be) (Field.mk 0 be))) r26.1)])
        · refine Sim.skip (.thenN (.pr [9, 10, 11] [12, 100011] [(false, 11, 0, 100011, 67, 25)] [(9, .one (vw Thing.cod l9)), (10, .one (vw Thing.cod l10)), (11, .one (.osl 100011 0 0 (l11).length))] [(100011, some (.arr 67 Event.cod.sz 0 (l11).length (getOf Event.cod l11)))] ?_))
          exact F38_j28_ok n l9 l10 rec_l12 m_l12 ih_l12 l11

def F38_j13 (n : Nat) (l9 : (List Thing)) (l10 : (List Thing)) (l11 : (List Event)) (rec_l12 : (List Thing) → (List Thing) → (List Event) → Option (List Event)) : Option (List Event) :=
    if ((l9).length : Int) == 0 then
      F38_j16 n l9 l10 l11 rec_l12
    else
      if decide ((0 : Int) < ((l10).length : Int)) then
        (ix l10 0).bind fun (x14 : Thing) =>
        (ix l9 0).bind fun (x15 : Thing) =>
        if decide (x14.ID < x15.ID) then
          F38_j16 n l9 l10 l11 rec_l12
        else
          F38_j19 n l9 l10 l11 rec_l12
      else
        F38_j19 n l9 l10 l11 rec_l12
theorem F38_j13_ok (n : Nat) (a0 : (List Thing)) (a1 : Rect) (a2 : (List Thing)) (a3 : Rect) (l9 : (List Thing)) (l10 : (List Thing)) (l11 : (List Event)) (rec_l12 : (List Thing) → (List Thing) → (List Event) → Option (List Event)) (m_l12 : Nat) (ih_l12 : ∀ (l9 : (List Thing)) (l10 : (List Thing)) (l11 : (List Event)), SimL Try.prog D (n + 8) m_l12 pc38_c31 [(9, .one (vw Thing.cod l9)), (10, .one (vw Thing.cod l10)), (11, .one (.osl 100011 0 0 (l11).length))] [(100011, some (.arr 67 Event.cod.sz 0 (l11).length (getOf Event.cod l11)))] (rec_l12 l9 l10 l11) (QB 0 (QT Try.prog D (n + 8) pc38_c36 (QF false pc38_r 0 F38_e)))) : Sim Try.prog D (n + 8) pc38_c27 [(9, .one (vw Thing.cod l9)), (10, .one (vw Thing.cod l10)), (11, .one (.osl 100011 0 0 (l11).length))] [(100011, some (.arr 67 Event.cod.sz 0 (l11).length (getOf Event.cod l11)))] (F38_j13 n l9 l10 l11 rec_l12) (QB 2 (QB 1 (QL Try.prog D (n + 8) m_l12 pc38_c31 (QB 0 (QT Try.prog D (n + 8) pc38_c36 (QF false pc38_r 0 F38_e)))))) := by
    unfold F38_j13
    refine Sim.seq (.rg [(9, .one (vw Thing.cod l9)), (10, .one (vw Thing.cod l10)), (11, .one (.osl 100011 0 0 (l11).length))] [(100011, some (.arr 67 Event.cod.sz 0 (l11).length (getOf Event.cod l11)))] (.rn 4 [(55, qb (((l9).length : Int) == 0)), (54, qb (((l9).length : Int) == 0)), (53, qj ((l9).length : Int)), (52, .one (vw Thing.cod l9))] [] (.split 55 (((l9).length : Int) == 0) (by kernel_rfl) ?_ ?_)))
    · refine SimI.rd 16 [(51, qb true), (70, qb true), (69, .tup []), (68, .tup []), (67, .tup []), (66, .tup []), (65, .tup []), (64, .tup []), (63, .tup []), (62, .tup []), (61, .tup []), (60, .tup []), (59, .tup []), (58, .tup []), (57, .tup []), (56, .tup [])] [] (.thenN (.condT (by kernel_rfl) (.pr [9, 10, 11] [100011] [] [(9, .one (vw Thing.cod l9)), (10, .one (vw Thing.cod l10)), (11, .one (.osl 100011 0 0 (l11).length))] [(100011, some (.arr 67 Event.cod.sz 0 (l11).length (getOf Event.cod l11)))] ?_)))
      exact F38_j16_ok n a0 a1 a2 a3 l9 l10 l11 rec_l12 m_l12 ih_l12
    · refine SimI.rn 4 [(59, qb (decide ((0 : Int) < ((l10).length : Int)))), (58, qb (decide ((0 : Int) < ((l10).length : Int)))), (57, qj ((l10).length : Int)), (56, .one (vw Thing.cod l10))] [] (.split 59 (decide ((0 : Int) < ((l10).length : Int))) (by kernel_rfl) ?_ ?_)
      · refine SimI.rn 1 [(60, .one (vw Thing.cod l10))] [] (.bind (og := ix l10 0) ⟨some 61, POp.iaddrS 11 (Operand.tmp 60) (Operand.const (Value.int IntKind.i64 0)), some (59, true), [(60, Hint.imm)]⟩ (fun x14 => [(61, .one (.eptr (Thing.cod.enc x14) 0))]) (fun x14 => []) (by kernel_rfl) (fun x14 hr => pOp_eff (by kernel_rfl) (by kernel_rfl) (eff_idx (c := Thing.cod) (l := l10) (k := .i64) (n := 0) (by kernel_rfl) (by kernel_rfl) (by kernel_rfl) hr)) (fun x14 => ?_))
        refine SimI.rn 3 [(64, .one (vw Thing.cod l9)), (63, qj x14.ID), (62, .one (.eptr (Thing.cod.enc x14) 0))] [] (.bind (og := ix l9 0) ⟨some 65, POp.iaddrS 11 (Operand.tmp 64) (Operand.const (Value.int IntKind.i64 0)), some (59, true), [(64, Hint.imm)]⟩ (fun x15 => [(65, .one (.eptr (Thing.cod.enc x15) 0))]) (fun x15 => []) (by kernel_rfl) (fun x15 hr => pOp_eff (by kernel_rfl) (by kernel_rfl) (eff_idx (c := Thing.cod) (l := l9) (k := .i64) (n := 0) (by kernel_rfl) (by kernel_rfl) (by kernel_rfl) hr)) (fun x15 => ?_))
        refine SimI.rd 6 [(51, qb (decide (x14.ID < x15.ID))), (70, qb (decide (x14.ID < x15.ID))), (69, qb (decide (x14.ID < x15.ID))), (68, qb (decide (x14.ID < x15.ID))), (67, qj x15.ID), (66, .one (.eptr (Thing.cod.enc x15) 0))] [] (.thenN (.cond (decide (x14.ID < x15.ID)) (by kernel_rfl) ?_ ?_))
        · refine Sim.pr [9, 10, 11] [100011] [] [(9, .one (vw Thing.cod l9)), (10, .one (vw Thing.cod l10)), (11, .one (.osl 100011 0 0 (l11).length))] [(100011, some (.arr 67 Event.cod.sz 0 (l11).length (getOf Event.cod l11)))] ?_
          exact F38_j16_ok n a0 a1 a2 a3 l9 l10 l11 rec_l12 m_l12 ih_l12
        · refine Sim.pr [9, 10, 11] [100011] [] [(9, .one (vw Thing.cod l9)), (10, .one (vw Thing.cod l10)), (11, .one (.osl 100011 0 0 (l11).length))] [(100011, some (.arr 67 Event.cod.sz 0 (l11).length (getOf Event.cod l11)))] ?_
          exact F38_j19_ok n a0 a1 a2 a3 l9 l10 l11 rec_l12 m_l12 ih_l12
      · refine SimI.rd 12 [(51, qb false), (70, qb false), (69, qb false), (68, .tup []), (67, .tup []), (66, .tup []), (65, .tup []), (64, .tup []), (63, .tup []), (62, .tup []), (61, .tup []), (60, .tup [])] [] (.thenN (.condF (by kernel_rfl) (.pr [9, 10, 11] [100011] [] [(9, .one (vw Thing.cod l9)), (10, .one (vw Thing.cod l10)), (11, .one (.osl 100011 0 0 (l11).length))] [(100011, some (.arr 67 Event.cod.sz 0 (l11).length (getOf Event.cod l11)))] ?_)))
        exact F38_j19_ok n a0 a1 a2 a3 l9 l10 l11 rec_l12 m_l12 ih_l12

def F38_l12 (n : Nat) : Nat → (List Thing) → (List Thing) → (List Event) → Option (List Event)
  | 0, _, _, _ => none
  | m + 1, l9, l10, l11 =>
    if ((l9).length : Int) == 0 then
      if ((l10).length : Int) == 0 then
        some l11
      else
        F38_j13 n l9 l10 l11 (F38_l12 n m)
    else
      F38_j13 n l9 l10 l11 (F38_l12 n m)
theorem F38_l12_ok (n : Nat) (a0 : (List Thing)) (a1 : Rect) (a2 : (List Thing)) (a3 : Rect) : ∀ (m : Nat) (l9 : (List Thing)) (l10 : (List Thing)) (l11 : (List Event)), SimL Try.prog D (n + 8) m pc38_c31 [(9, .one (vw Thing.cod l9)), (10, .one (vw Thing.cod l10)), (11, .one (.osl 100011 0 0 (l11).length))] [(100011, some (.arr 67 Event.cod.sz 0 (l11).length (getOf Event.cod l11)))] (F38_l12 n m l9 l10 l11) (QB 0 (QT Try.prog D (n + 8) pc38_c36 (QF false pc38_r 0 F38_e))) := by
  intro m_l12
  induction m_l12 with
  | zero => intro l9 l10 l11; exact SimL.zero'  rfl
  | succ m_l12 ih_l12 =>
    intro l9 l10 l11
    refine SimL.succ ?_
    unfold F38_l12
    refine Sim.block (.block (.seq (.rg [(9, .one (vw Thing.cod l9)), (10, .one (vw Thing.cod l10)), (11, .one (.osl 100011 0 0 (l11).length))] [(100011, some (.arr 67 Event.cod.sz 0 (l11).length (getOf Event.cod l11)))] (.rn 4 [(46, qb (((l9).length : Int) == 0)), (45, qb (((l9).length : Int) == 0)), (44, qj ((l9).length : Int)), (43, .one (vw Thing.cod l9))] [] (.split 46 (((l9).length : Int) == 0) (by kernel_rfl) ?_ ?_)))))
    · refine SimI.rd 5 [(42, qb (((l10).length : Int) == 0)), (50, qb (((l10).length : Int) == 0)), (49, qb (((l10).length : Int) == 0)), (48, qj ((l10).length : Int)), (47, .one (vw Thing.cod l10))] [] (.thenN (.cond (((l10).length : Int) == 0) (by kernel_rfl) ?_ ?_))
      · exact Sim.exit (.blockY rfl (.blockY rfl (.loopX (.blockX (.thenN (.sr 2 [(8, .one (.osl 100011 0 0 (l11).length)), (109, .one (.osl 100011 0 0 (l11).length))] [] (.ret (.fin (out_of (os := []) (ress_cons (resOf_own (c := Event.cod) (k := 100011) (g := 0) (el := 67) (l := l11) (by kernel_rfl) (by kernel_rfl) (by kernel_rfl)) (ress_nil)) (by kernel_rfl) rfl (by kernel_rfl))))))))))
      · refine Sim.pr [9, 10, 11] [100011] [] [(9, .one (vw Thing.cod l9)), (10, .one (vw Thing.cod l10)), (11, .one (.osl 100011 0 0 (l11).length))] [(100011, some (.arr 67 Event.cod.sz 0 (l11).length (getOf Event.cod l11)))] ?_
        exact F38_j13_ok n a0 a1 a2 a3 l9 l10 l11 (F38_l12 n m_l12) m_l12 ih_l12
    · refine SimI.rd 5 [(42, qb false), (50, qb false), (49, .tup []), (48, .tup []), (47, .tup [])] [] (.thenN (.condF (by kernel_rfl) (.pr [9, 10, 11] [100011] [] [(9, .one (vw Thing.cod l9)), (10, .one (vw Thing.cod l10)), (11, .one (.osl 100011 0 0 (l11).length))] [(100011, some (.arr 67 Event.cod.sz 0 (l11).length (getOf Event.cod l11)))] ?_)))
      exact F38_j13_ok n a0 a1 a2 a3 l9 l10 l11 (F38_l12 n m_l12) m_l12 ih_l12

def F38 (n : Nat) (a0 : (List Thing)) (a1 : Rect) (a2 : (List Thing)) (a3 : Rect) : Option (List Event) :=
  (F41 n a0 a1).bind fun (r1 : (List Thing)) =>
  (F41 n a2 a3).bind fun (r2 : (List Thing)) =>
  F38_l12 n (n + 8) r1 r2 ([] : List Event)
theorem F38_ok (n : Nat) (a0 : (List Thing)) (a1 : Rect) (a2 : (List Thing)) (a3 : Rect) : ∀ r, F38 n a0 a1 a2 a3 = some r → D 38 [.one (vw Thing.cod a0), .agg (Rect.cells a1), .one (vw Thing.cod a2), .agg (Rect.cells a3)] [] = some (F38_e r) := by
  refine fn_to (D := D) (n := n + 8) (nt := 110) (rs := pc38_r) (c := pc38_c42) (L := [(0, .one (vw Thing.cod a0)), (1, .agg (Rect.cells a1)), (2, .one (vw Thing.cod a2)), (3, .agg (Rect.cells a3))]) (M := []) (k := 0) rfl rfl rfl rfl rfl rfl rfl ?_
  unfold F38
  refine Sim.sr 3 [(8, .one (lnil)), (7, qp 7 0), (5, qp 5 0)] [(7, some (.cells (Rect.cells a3))), (5, some (.cells (Rect.cells a1)))] (.scope (.st 2 [(15, .agg (Rect.cells a1)), (14, .one (vw Thing.cod a0))] [] (.bind (og := F41 n a0 a1) ⟨some 16, POp.call false [[(0, 11)], []] 41 [Operand.tmp 14, Operand.tmp 15], none, [(14, Hint.imm), (15, Hint.imm)]⟩ (fun r1 => [(16, .one (vw Thing.cod r1))]) (fun r1 => []) (by kernel_rfl) (fun r1 hr => pOp_eff (by kernel_rfl) (by kernel_rfl) (eff_call (ARGS := [.one (vw Thing.cod a0), .agg (Rect.cells a1)]) (by kernel_rfl) (args_clean (by kernel_rfl) (args_clean (by kernel_rfl) args_nil)) (F41_ok n a0 a1 r1 hr) (by kernel_rfl))) (fun r1 => ?_))))
  refine SimI.rn 2 [(18, .agg (Rect.cells a3)), (17, .one (vw Thing.cod a2))] [] (.bind (og := F41 n a2 a3) ⟨some 19, POp.call false [[(0, 11)], []] 41 [Operand.tmp 17, Operand.tmp 18], none, [(17, Hint.imm), (18, Hint.imm)]⟩ (fun r2 => [(19, .one (vw Thing.cod r2))]) (fun r2 => []) (by kernel_rfl) (fun r2 hr => pOp_eff (by kernel_rfl) (by kernel_rfl) (eff_call (ARGS := [.one (vw Thing.cod a2), .agg (Rect.cells a3)]) (by kernel_rfl) (args_clean (by kernel_rfl) (args_clean (by kernel_rfl) args_nil)) (F41_ok n a2 a3 r2 hr) (by kernel_rfl))) (fun r2 => ?_))
  refine SimI.rd 2 [(10, .one (vw Thing.cod r2)), (9, .one (vw Thing.cod r1))] [] (.thenN (.sr 1 [(11, .one (lnil))] [] (.seq (.label (.thenN (.seq (.block (.loop (.pr [9, 10, 11] [5, 7, 100011] [(false, 11, 0, 100011, 67, 25)] [(9, .one (vw Thing.cod r1)), (10, .one (vw Thing.cod r2)), (11, .one (.osl 100011 0 0 (([] : List Event)).length))] [(100011, some (.arr 67 Event.cod.sz 0 (([] : List Event)).length (getOf Event.cod ([] : List Event))))] ?_)))))))))
  exact F38_l12_ok n a0 a1 a2 a3 (n + 8) r1 r2 ([] : List Event)


-- 35: vedette/vedettelaw16.known
theorem F35_ok (n : Nat) : ∀ r, (some true : Option Bool) = some r → D 35 [] [] = some (.one (lb r), []) := by
  rintro _ ⟨⟩
  exact all_of (N := 60) (by kernel_rfl)


-- 109: vedette/vedettelaw16.fewField
def F109_e : Bool → PV × List Ob := fun r => (.one (lb r), [])
def F109 (n : Nat) (a0 : Field) : Option Bool :=
  some (decide ((a0.Text.size : Int) ≤ 40))
theorem F109_ok (n : Nat) (a0 : Field) : ∀ r, F109 n a0 = some r → D 109 [.agg [li .i64 a0.N, ls a0.Text]] [] = some (F109_e r) := by
  refine fn_to (D := D) (n := n + 8) (nt := 7) (rs := pc109_r) (c := pc109_c5) (L := [(0, .agg [lj a0.N, ls a0.Text])]) (M := []) (k := 0) rfl rfl rfl rfl rfl rfl rfl ?_
  unfold F109
  exact Sim.sr 2 [(2, qb false), (1, qp 1 0)] [(1, some (.cells [lj a0.N, ls a0.Text]))] (.sr 5 [(2, qb (decide ((a0.Text.size : Int) ≤ 40))), (6, qb (decide ((a0.Text.size : Int) ≤ 40))), (5, qj (a0.Text.size : Int)), (4, qs a0.Text), (3, qp 1 1)] [] (.ret .fn))


-- 75: vedette/vedettelaw16.fewThing
def F75_e : Bool → PV × List Ob := fun r => (.one (lb r), [])
def F75 (n : Nat) (a0 : Thing) : Option Bool :=
  (F109 n a0.F.a0).bind fun (r1 : Bool) =>
  if !(r1) then
    some false
  else
    (F109 n a0.F.a1).bind fun (r2 : Bool) =>
    if !(r2) then
      some false
    else
      (F109 n a0.F.a2).bind fun (r3 : Bool) =>
      if !(r3) then
        some false
      else
        (F109 n a0.F.a3).bind fun (r4 : Bool) =>
        if !(r4) then
          some false
        else
          some true
theorem F75_ok (n : Nat) (a0 : Thing) : ∀ r, F75 n a0 = some r → D 75 [.agg (Thing.cells a0)] [] = some (F75_e r) := by
  refine fn_to (D := D) (n := n + 8) (nt := 14) (rs := pc75_r) (c := pc75_c26) (L := [(0, .agg (Thing.cells a0))]) (M := []) (k := 0) rfl rfl rfl rfl rfl rfl rfl ?_
  unfold F75
  refine Sim.sr 2 [(2, qb false), (1, qp 1 0)] [(1, some (.cells (Thing.cells a0)))] (.seq (.sr 1 [(3, qj 0)] [] (.block (.loop (.succ (.seq (.seq (.rg [(1, qp 1 0), (3, qj 0)] [(1, some (.cells (Thing.cells a0)))] (.rd 2 [(5, qb true), (4, qj 0)] [] (.thenN (.condT (by kernel_rfl) (.skip (.thenN (.seq (.block (.st 4 [(11, .agg [lj a0.F.a0.N, ls a0.F.a0.Text]), (10, qp 1 3), (9, qp 1 3), (8, qj 0)] [] (.cl 12 true [[]] 109 [Operand.tmp 11] none (fun r1 => qb r1) [.agg [lj a0.F.a0.N, ls a0.F.a0.Text]] (F109_ok n a0.F.a0) (fun r1 => ?_))))))))))))))))))
  refine SimI.rd 1 [(13, qb (!(r1)))] [] (.thenN (.cond (!(r1)) (by kernel_rfl) ?_ ?_))
  · exact Sim.sr 1 [(2, qb false)] [] (.ret (.blockR (.thenR (.loopR (.blockR (.thenR .fn))))))
  · refine Sim.skip (.blockN (.thenN (.region0 (.rd 3 [(3, qj 1), (7, qj 1), (6, qj 0)] [] (.loopN (.succ (.seq (.seq (.rg [(1, qp 1 0), (3, qj 1)] [(1, some (.cells (Thing.cells a0)))] (.rd 2 [(5, qb true), (4, qj 1)] [] (.thenN (.condT (by kernel_rfl) (.skip (.thenN (.seq (.block (.st 4 [(11, .agg [lj a0.F.a1.N, ls a0.F.a1.Text]), (10, qp 1 5), (9, qp 1 3), (8, qj 1)] [] (.cl 12 true [[]] 109 [Operand.tmp 11] none (fun r2 => qb r2) [.agg [lj a0.F.a1.N, ls a0.F.a1.Text]] (F109_ok n a0.F.a1) (fun r2 => ?_)))))))))))))))))))
    refine SimI.rd 1 [(13, qb (!(r2)))] [] (.thenN (.cond (!(r2)) (by kernel_rfl) ?_ ?_))
    · exact Sim.sr 1 [(2, qb false)] [] (.ret (.blockR (.thenR (.loopR (.blockR (.thenR .fn))))))
    · refine Sim.skip (.blockN (.thenN (.region0 (.rd 3 [(3, qj 2), (7, qj 2), (6, qj 1)] [] (.loopN (.succ (.seq (.seq (.rg [(1, qp 1 0), (3, qj 2)] [(1, some (.cells (Thing.cells a0)))] (.rd 2 [(5, qb true), (4, qj 2)] [] (.thenN (.condT (by kernel_rfl) (.skip (.thenN (.seq (.block (.st 4 [(11, .agg [lj a0.F.a2.N, ls a0.F.a2.Text]), (10, qp 1 7), (9, qp 1 3), (8, qj 2)] [] (.cl 12 true [[]] 109 [Operand.tmp 11] none (fun r3 => qb r3) [.agg [lj a0.F.a2.N, ls a0.F.a2.Text]] (F109_ok n a0.F.a2) (fun r3 => ?_)))))))))))))))))))
      refine SimI.rd 1 [(13, qb (!(r3)))] [] (.thenN (.cond (!(r3)) (by kernel_rfl) ?_ ?_))
      · exact Sim.sr 1 [(2, qb false)] [] (.ret (.blockR (.thenR (.loopR (.blockR (.thenR .fn))))))
      · refine Sim.skip (.blockN (.thenN (.region0 (.rd 3 [(3, qj 3), (7, qj 3), (6, qj 2)] [] (.loopN (.succ (.seq (.seq (.rg [(1, qp 1 0), (3, qj 3)] [(1, some (.cells (Thing.cells a0)))] (.rd 2 [(5, qb true), (4, qj 3)] [] (.thenN (.condT (by kernel_rfl) (.skip (.thenN (.seq (.block (.st 4 [(11, .agg [lj a0.F.a3.N, ls a0.F.a3.Text]), (10, qp 1 9), (9, qp 1 3), (8, qj 3)] [] (.cl 12 true [[]] 109 [Operand.tmp 11] none (fun r4 => qb r4) [.agg [lj a0.F.a3.N, ls a0.F.a3.Text]] (F109_ok n a0.F.a3) (fun r4 => ?_)))))))))))))))))))
        refine SimI.rd 1 [(13, qb (!(r4)))] [] (.thenN (.cond (!(r4)) (by kernel_rfl) ?_ ?_))
        · exact Sim.sr 1 [(2, qb false)] [] (.ret (.blockR (.thenR (.loopR (.blockR (.thenR .fn))))))
        · exact Sim.skip (.blockN (.thenN (.region0 (.rd 3 [(3, qj 4), (7, qj 4), (6, qj 3)] [] (.loopN (.succ (.seq (.seq (.rg [(1, qp 1 0), (3, qj 4)] [(1, some (.cells (Thing.cells a0)))] (.rd 2 [(5, qb false), (4, qj 4)] [] (.thenN (.condF (by kernel_rfl) (.exit (.thenX (.loopX (.blockX (.thenN (.sr 1 [(2, qb true)] [] (.ret .fn)))))))))))))))))))


-- 36: vedette/vedettelaw16.fewThings
def F36_e : Bool → PV × List Ob := fun r => (.one (lb r), [])
def F36_l4 (n : Nat) (a0 : (List Thing)) : Nat → Int → Option Bool
  | 0, _ => none
  | m + 1, i3 =>
    if decide (i3 < ((a0).length : Int)) then
      (ix a0 i3).bind fun (x5 : Thing) =>
      (F75 n x5).bind fun (r6 : Bool) =>
      if !(r6) then
        some false
      else
        (F36_l4 n a0 m) (IntKind.wrap .i64 (i3 + 1))
    else
      some (decide (((a0).length : Int) ≤ 30))
theorem F36_l4_ok (n : Nat) (a0 : (List Thing)) : ∀ (m : Nat) (i3 : Int), SimL Try.prog D (n + 8) m pc36_c18 [(0, .one (vw Thing.cod a0)), (3, qj i3)] [] (F36_l4 n a0 m i3) (QB 0 (QT Try.prog D (n + 8) pc36_c24 (QF false pc36_r 0 F36_e))) := by
  intro m_l4
  induction m_l4 with
  | zero => intro i3; exact SimL.zero'  rfl
  | succ m_l4 ih_l4 =>
    intro i3
    refine SimL.succ ?_
    unfold F36_l4
    refine Sim.seq (.seq (.rg [(0, .one (vw Thing.cod a0)), (3, qj i3)] [] (.rd 4 [(7, qb (decide (i3 < ((a0).length : Int)))), (6, qj ((a0).length : Int)), (5, .one (vw Thing.cod a0)), (4, qj i3)] [] (.thenN (.cond (decide (i3 < ((a0).length : Int))) (by kernel_rfl) ?_ ?_)))))
    · refine Sim.skip (.thenN (.seq (.block (.st 2 [(11, qj i3), (10, .one (vw Thing.cod a0))] [] (.bind (og := ix a0 i3) ⟨some 12, POp.iaddrS 11 (Operand.tmp 10) (Operand.tmp 11), none, []⟩ (fun x5 => [(12, .one (.eptr (Thing.cod.enc x5) 0))]) (fun x5 => []) (by kernel_rfl) (fun x5 hr => pOp_eff (by kernel_rfl) (by kernel_rfl) (eff_idx (c := Thing.cod) (l := a0) (k := .i64) (n := i3) (by kernel_rfl) (by kernel_rfl) (by kernel_rfl) hr)) (fun x5 => ?_))))))
      refine SimI.rn 1 [(13, .agg (Thing.cells x5))] [] (.cl 14 true [[]] 75 [Operand.tmp 13] none (fun r6 => qb r6) [.agg (Thing.cells x5)] (F75_ok n x5) (fun r6 => ?_))
      refine SimI.rd 1 [(15, qb (!(r6)))] [] (.thenN (.cond (!(r6)) (by kernel_rfl) ?_ ?_))
      · exact Sim.sr 1 [(2, qb false)] [] (.ret (.blockR (.thenR (.loopR (.blockR (.thenR .fn))))))
      · refine Sim.skip (.blockN (.thenN (.region0 (.rd 3 [(3, qj (IntKind.wrap .i64 (i3 + 1))), (9, qj (IntKind.wrap .i64 (i3 + 1))), (8, qj i3)] [] (.loopN (.pr [0, 3] [] [] [(0, .one (vw Thing.cod a0)), (3, qj (IntKind.wrap .i64 (i3 + 1)))] [] ?_))))))
        exact ih_l4 (IntKind.wrap .i64 (i3 + 1))
    · exact Sim.exit (.thenX (.loopX (.blockX (.thenN (.sr 4 [(2, qb (decide (((a0).length : Int) ≤ 30))), (18, qb (decide (((a0).length : Int) ≤ 30))), (17, qj ((a0).length : Int)), (16, .one (vw Thing.cod a0))] [] (.ret .fn))))))

def F36 (n : Nat) (a0 : (List Thing)) : Option Bool :=
  F36_l4 n a0 (n + 8) 0
theorem F36_ok (n : Nat) (a0 : (List Thing)) : ∀ r, F36 n a0 = some r → D 36 [.one (vw Thing.cod a0)] [] = some (F36_e r) := by
  refine fn_to (D := D) (n := n + 8) (nt := 19) (rs := pc36_r) (c := pc36_c26) (L := [(0, .one (vw Thing.cod a0))]) (M := []) (k := 0) rfl rfl rfl rfl rfl rfl rfl ?_
  unfold F36
  refine Sim.sr 1 [(2, qb false)] [] (.seq (.sr 1 [(3, qj 0)] [] (.block (.loop (.pr [0, 3] [] [] [(0, .one (vw Thing.cod a0)), (3, qj 0)] [] ?_)))))
  exact F36_l4_ok n a0 (n + 8) 0


-- 58: vedette/vedetteref3.On
def F58_e : Bool → PV × List Ob := fun r => (.one (lb r), [])
def F58 (n : Nat) (a0 : Point) : Option Bool :=
  if decide ((0 : Int) ≤ a0.X) then
    if decide (a0.X < 64) then
      if decide ((0 : Int) ≤ a0.Y) then
        some (decide (a0.Y < 64))
      else
        some false
    else
      some false
  else
    some false
theorem F58_ok (n : Nat) (a0 : Point) : ∀ r, F58 n a0 = some r → D 58 [.agg [li .i64 a0.X, li .i64 a0.Y]] [] = some (F58_e r) := by
  refine fn_to (D := D) (n := n + 8) (nt := 21) (rs := pc58_r) (c := pc58_c5) (L := [(0, .agg [lj a0.X, lj a0.Y])]) (M := []) (k := 0) rfl rfl rfl rfl rfl rfl rfl ?_
  unfold F58
  refine Sim.sr 2 [(2, qb false), (1, qp 1 0)] [(1, some (.cells [lj a0.X, lj a0.Y]))] (.st 4 [(6, qb (decide ((0 : Int) ≤ a0.X))), (5, qb (decide ((0 : Int) ≤ a0.X))), (4, qj a0.X), (3, qp 1 0)] [] (.split 6 (decide ((0 : Int) ≤ a0.X)) (by kernel_rfl) ?_ ?_))
  · refine SimI.rn 5 [(11, qb (decide (a0.X < 64))), (10, qb (decide (a0.X < 64))), (9, qb (decide (a0.X < 64))), (8, qj a0.X), (7, qp 1 0)] [] (.split 11 (decide (a0.X < 64)) (by kernel_rfl) ?_ ?_)
    · refine SimI.rn 5 [(16, qb (decide ((0 : Int) ≤ a0.Y))), (15, qb (decide ((0 : Int) ≤ a0.Y))), (14, qb (decide ((0 : Int) ≤ a0.Y))), (13, qj a0.Y), (12, qp 1 1)] [] (.split 16 (decide ((0 : Int) ≤ a0.Y)) (by kernel_rfl) ?_ ?_)
      · exact SimI.rd 5 [(2, qb (decide (a0.Y < 64))), (20, qb (decide (a0.Y < 64))), (19, qb (decide (a0.Y < 64))), (18, qj a0.Y), (17, qp 1 1)] [] (.thenN (.ret .fn))
      · exact SimI.rd 5 [(2, qb false), (20, qb false), (19, .tup []), (18, .tup []), (17, .tup [])] [] (.thenN (.ret .fn))
    · exact SimI.rd 10 [(2, qb false), (20, qb false), (19, .tup []), (18, .tup []), (17, .tup []), (16, qb false), (15, qb false), (14, .tup []), (13, .tup []), (12, .tup [])] [] (.thenN (.ret .fn))
  · exact SimI.rd 15 [(2, qb false), (20, qb false), (19, .tup []), (18, .tup []), (17, .tup []), (16, qb false), (15, qb false), (14, .tup []), (13, .tup []), (12, .tup []), (11, qb false), (10, qb false), (9, .tup []), (8, .tup []), (7, .tup [])] [] (.thenN (.ret .fn))


-- 59: vedette/vedetteref6.IsField
def F59_e : Bool → PV × List Ob := fun r => (.one (lb r), [])
def F59 (n : Nat) (a0 : Field) : Option Bool :=
  if a0.N == 0 then
    some (decide ((a0.Text.size : Int) ≤ 12))
  else
    if a0.Text.toList == ByteArray.empty.toList then
      some (decide ((a0.Text.size : Int) ≤ 12))
    else
      some false
theorem F59_ok (n : Nat) (a0 : Field) : ∀ r, F59 n a0 = some r → D 59 [.agg [li .i64 a0.N, ls a0.Text]] [] = some (F59_e r) := by
  refine fn_to (D := D) (n := n + 8) (nt := 17) (rs := pc59_r) (c := pc59_c5) (L := [(0, .agg [lj a0.N, ls a0.Text])]) (M := []) (k := 0) rfl rfl rfl rfl rfl rfl rfl ?_
  unfold F59
  refine Sim.sr 2 [(2, qb false), (1, qp 1 0)] [(1, some (.cells [lj a0.N, ls a0.Text]))] (.st 4 [(6, qb (a0.N == 0)), (5, qb (a0.N == 0)), (4, qj a0.N), (3, qp 1 0)] [] (.split 6 (a0.N == 0) (by kernel_rfl) ?_ ?_))
  · exact SimI.rd 11 [(2, qb (decide ((a0.Text.size : Int) ≤ 12))), (16, qb (decide ((a0.Text.size : Int) ≤ 12))), (15, qb (decide ((a0.Text.size : Int) ≤ 12))), (14, qj (a0.Text.size : Int)), (13, qs a0.Text), (12, qp 1 1), (11, qb true), (10, qb true), (9, .tup []), (8, .tup []), (7, .tup [])] [] (.thenN (.ret .fn))
  · refine SimI.rn 5 [(11, qb (a0.Text.toList == be.toList)), (10, qb (a0.Text.toList == be.toList)), (9, qb (a0.Text.toList == be.toList)), (8, qs a0.Text), (7, qp 1 1)] [] (.split 11 (a0.Text.toList == be.toList) (by kernel_rfl) ?_ ?_)
    · exact SimI.rd 6 [(2, qb (decide ((a0.Text.size : Int) ≤ 12))), (16, qb (decide ((a0.Text.size : Int) ≤ 12))), (15, qb (decide ((a0.Text.size : Int) ≤ 12))), (14, qj (a0.Text.size : Int)), (13, qs a0.Text), (12, qp 1 1)] [] (.thenN (.ret .fn))
    · exact SimI.rd 6 [(2, qb false), (16, qb false), (15, .tup []), (14, .tup []), (13, .tup []), (12, .tup [])] [] (.thenN (.ret .fn))


-- 18: vedette/vedetteref6.Is
def F18_e : Bool → PV × List Ob := fun r => (.one (lb r), [])
def F18_u15 (n : Nat) (b14 : Bool) : Option Bool :=
    some b14
theorem F18_u15_ok (n : Nat) (a0 : Thing) (b14 : Bool) : SimL Try.prog D (n + 8) (n + 4) pc18_c13 [(1, qp 1 0), (3, qb b14), (4, qj 4)] [(1, some (.cells (Thing.cells a0)))] (F18_u15 n b14) (QB 0 (QT Try.prog D (n + 8) pc18_c19 (QF false pc18_r 0 F18_e))) := by
    unfold F18_u15
    exact SimL.succ (.seq (.seq (.rg [(1, qp 1 0), (3, qb b14), (4, qj 4)] [(1, some (.cells (Thing.cells a0)))] (.rd 2 [(19, qb false), (18, qj 4)] [] (.thenN (.condF (by kernel_rfl) (.exit (.thenX (.loopX (.blockX (.thenN (.sr 2 [(2, qb b14), (30, qb b14)] [] (.ret .fn)))))))))))))

def F18_u12 (n : Nat) (a0 : Thing) (b11 : Bool) : Option Bool :=
    if b11 then
      (F59 n a0.F.a3).bind fun (r13 : Bool) =>
      F18_u15 n r13
    else
      F18_u15 n false
theorem F18_u12_ok (n : Nat) (a0 : Thing) (b11 : Bool) : SimL Try.prog D (n + 8) (n + 5) pc18_c13 [(1, qp 1 0), (3, qb b11), (4, qj 3)] [(1, some (.cells (Thing.cells a0)))] (F18_u12 n a0 b11) (QB 0 (QT Try.prog D (n + 8) pc18_c19 (QF false pc18_r 0 F18_e))) := by
    unfold F18_u12
    refine SimL.succ (.seq (.seq (.rg [(1, qp 1 0), (3, qb b11), (4, qj 3)] [(1, some (.cells (Thing.cells a0)))] (.rd 2 [(19, qb true), (18, qj 3)] [] (.thenN (.condT (by kernel_rfl) (.skip (.thenN (.seq (.block (.region0 (.rn 2 [(23, qb b11), (22, qb b11)] [] (.split 23 b11 (by kernel_rfl) ?_ ?_)))))))))))))
    · refine SimI.rn 4 [(27, .agg [lj a0.F.a3.N, ls a0.F.a3.Text]), (26, qp 1 9), (25, qp 1 3), (24, qj 3)] [] (.cl 28 true [[]] 59 [Operand.tmp 27] (some (23, true)) (fun r13 => qb r13) [.agg [lj a0.F.a3.N, ls a0.F.a3.Text]] (F59_ok n a0.F.a3) (fun r13 => ?_))
      refine SimI.rd 2 [(3, qb r13), (29, qb r13)] [] (.blockN (.thenN (.region0 (.rd 3 [(4, qj 4), (21, qj 4), (20, qj 3)] [] (.loopN (.pr [1, 3, 4] [1] [] [(1, qp 1 0), (3, qb r13), (4, qj 4)] [(1, some (.cells (Thing.cells a0)))] ?_))))))
      exact F18_u15_ok n a0 r13
    · refine SimI.rd 7 [(3, qb false), (29, qb false), (28, .tup []), (27, .tup []), (26, .tup []), (25, .tup []), (24, .tup [])] [] (.blockN (.thenN (.region0 (.rd 3 [(4, qj 4), (21, qj 4), (20, qj 3)] [] (.loopN (.pr [1, 3, 4] [1] [] [(1, qp 1 0), (3, qb false), (4, qj 4)] [(1, some (.cells (Thing.cells a0)))] ?_))))))
      exact F18_u15_ok n a0 false

def F18_u9 (n : Nat) (a0 : Thing) (b8 : Bool) : Option Bool :=
    if b8 then
      (F59 n a0.F.a2).bind fun (r10 : Bool) =>
      F18_u12 n a0 r10
    else
      F18_u12 n a0 false
theorem F18_u9_ok (n : Nat) (a0 : Thing) (b8 : Bool) : SimL Try.prog D (n + 8) (n + 6) pc18_c13 [(1, qp 1 0), (3, qb b8), (4, qj 2)] [(1, some (.cells (Thing.cells a0)))] (F18_u9 n a0 b8) (QB 0 (QT Try.prog D (n + 8) pc18_c19 (QF false pc18_r 0 F18_e))) := by
    unfold F18_u9
    refine SimL.succ (.seq (.seq (.rg [(1, qp 1 0), (3, qb b8), (4, qj 2)] [(1, some (.cells (Thing.cells a0)))] (.rd 2 [(19, qb true), (18, qj 2)] [] (.thenN (.condT (by kernel_rfl) (.skip (.thenN (.seq (.block (.region0 (.rn 2 [(23, qb b8), (22, qb b8)] [] (.split 23 b8 (by kernel_rfl) ?_ ?_)))))))))))))
    · refine SimI.rn 4 [(27, .agg [lj a0.F.a2.N, ls a0.F.a2.Text]), (26, qp 1 7), (25, qp 1 3), (24, qj 2)] [] (.cl 28 true [[]] 59 [Operand.tmp 27] (some (23, true)) (fun r10 => qb r10) [.agg [lj a0.F.a2.N, ls a0.F.a2.Text]] (F59_ok n a0.F.a2) (fun r10 => ?_))
      refine SimI.rd 2 [(3, qb r10), (29, qb r10)] [] (.blockN (.thenN (.region0 (.rd 3 [(4, qj 3), (21, qj 3), (20, qj 2)] [] (.loopN (.pr [1, 3, 4] [1] [] [(1, qp 1 0), (3, qb r10), (4, qj 3)] [(1, some (.cells (Thing.cells a0)))] ?_))))))
      exact F18_u12_ok n a0 r10
    · refine SimI.rd 7 [(3, qb false), (29, qb false), (28, .tup []), (27, .tup []), (26, .tup []), (25, .tup []), (24, .tup [])] [] (.blockN (.thenN (.region0 (.rd 3 [(4, qj 3), (21, qj 3), (20, qj 2)] [] (.loopN (.pr [1, 3, 4] [1] [] [(1, qp 1 0), (3, qb false), (4, qj 3)] [(1, some (.cells (Thing.cells a0)))] ?_))))))
      exact F18_u12_ok n a0 false

def F18_u6 (n : Nat) (a0 : Thing) (b5 : Bool) : Option Bool :=
    if b5 then
      (F59 n a0.F.a1).bind fun (r7 : Bool) =>
      F18_u9 n a0 r7
    else
      F18_u9 n a0 false
theorem F18_u6_ok (n : Nat) (a0 : Thing) (b5 : Bool) : SimL Try.prog D (n + 8) (n + 7) pc18_c13 [(1, qp 1 0), (3, qb b5), (4, qj 1)] [(1, some (.cells (Thing.cells a0)))] (F18_u6 n a0 b5) (QB 0 (QT Try.prog D (n + 8) pc18_c19 (QF false pc18_r 0 F18_e))) := by
    unfold F18_u6
    refine SimL.succ (.seq (.seq (.rg [(1, qp 1 0), (3, qb b5), (4, qj 1)] [(1, some (.cells (Thing.cells a0)))] (.rd 2 [(19, qb true), (18, qj 1)] [] (.thenN (.condT (by kernel_rfl) (.skip (.thenN (.seq (.block (.region0 (.rn 2 [(23, qb b5), (22, qb b5)] [] (.split 23 b5 (by kernel_rfl) ?_ ?_)))))))))))))
    · refine SimI.rn 4 [(27, .agg [lj a0.F.a1.N, ls a0.F.a1.Text]), (26, qp 1 5), (25, qp 1 3), (24, qj 1)] [] (.cl 28 true [[]] 59 [Operand.tmp 27] (some (23, true)) (fun r7 => qb r7) [.agg [lj a0.F.a1.N, ls a0.F.a1.Text]] (F59_ok n a0.F.a1) (fun r7 => ?_))
      refine SimI.rd 2 [(3, qb r7), (29, qb r7)] [] (.blockN (.thenN (.region0 (.rd 3 [(4, qj 2), (21, qj 2), (20, qj 1)] [] (.loopN (.pr [1, 3, 4] [1] [] [(1, qp 1 0), (3, qb r7), (4, qj 2)] [(1, some (.cells (Thing.cells a0)))] ?_))))))
      exact F18_u9_ok n a0 r7
    · refine SimI.rd 7 [(3, qb false), (29, qb false), (28, .tup []), (27, .tup []), (26, .tup []), (25, .tup []), (24, .tup [])] [] (.blockN (.thenN (.region0 (.rd 3 [(4, qj 2), (21, qj 2), (20, qj 1)] [] (.loopN (.pr [1, 3, 4] [1] [] [(1, qp 1 0), (3, qb false), (4, qj 2)] [(1, some (.cells (Thing.cells a0)))] ?_))))))
      exact F18_u9_ok n a0 false

def F18_j3 (n : Nat) (a0 : Thing) (b2 : Bool) : Option Bool :=
    if b2 then
      (F59 n a0.F.a0).bind fun (r4 : Bool) =>
      F18_u6 n a0 r4
    else
      F18_u6 n a0 false
theorem F18_j3_ok (n : Nat) (a0 : Thing) (b2 : Bool) : Sim Try.prog D (n + 8) pc18_c20 [(1, qp 1 0), (3, qb b2)] [(1, some (.cells (Thing.cells a0)))] (F18_j3 n a0 b2) (QF false pc18_r 0 F18_e) := by
    unfold F18_j3
    refine Sim.seq (.seq (.rg [(1, qp 1 0), (3, qb b2)] [(1, some (.cells (Thing.cells a0)))] (.rd 1 [(4, qj 0)] [] (.thenN (.block (.loop (.succ (.seq (.seq (.rg [(1, qp 1 0), (3, qb b2), (4, qj 0)] [(1, some (.cells (Thing.cells a0)))] (.rd 2 [(19, qb true), (18, qj 0)] [] (.thenN (.condT (by kernel_rfl) (.skip (.thenN (.seq (.block (.region0 (.rn 2 [(23, qb b2), (22, qb b2)] [] (.split 23 b2 (by kernel_rfl) ?_ ?_))))))))))))))))))))
    · refine SimI.rn 4 [(27, .agg [lj a0.F.a0.N, ls a0.F.a0.Text]), (26, qp 1 3), (25, qp 1 3), (24, qj 0)] [] (.cl 28 true [[]] 59 [Operand.tmp 27] (some (23, true)) (fun r4 => qb r4) [.agg [lj a0.F.a0.N, ls a0.F.a0.Text]] (F59_ok n a0.F.a0) (fun r4 => ?_))
      refine SimI.rd 2 [(3, qb r4), (29, qb r4)] [] (.blockN (.thenN (.region0 (.rd 3 [(4, qj 1), (21, qj 1), (20, qj 0)] [] (.loopN (.pr [1, 3, 4] [1] [] [(1, qp 1 0), (3, qb r4), (4, qj 1)] [(1, some (.cells (Thing.cells a0)))] ?_))))))
      exact F18_u6_ok n a0 r4
    · refine SimI.rd 7 [(3, qb false), (29, qb false), (28, .tup []), (27, .tup []), (26, .tup []), (25, .tup []), (24, .tup [])] [] (.blockN (.thenN (.region0 (.rd 3 [(4, qj 1), (21, qj 1), (20, qj 0)] [] (.loopN (.pr [1, 3, 4] [1] [] [(1, qp 1 0), (3, qb false), (4, qj 1)] [(1, some (.cells (Thing.cells a0)))] ?_))))))
      exact F18_u6_ok n a0 false

def F18 (n : Nat) (a0 : Thing) : Option Bool :=
  if decide ((0 : Int) ≤ a0.ID) then
    if decide (a0.ID ≤ 1000000) then
      (F58 n a0.At).bind fun (r1 : Bool) =>
      F18_j3 n a0 r1
    else
      F18_j3 n a0 false
  else
    F18_j3 n a0 false
theorem F18_ok (n : Nat) (a0 : Thing) : ∀ r, F18 n a0 = some r → D 18 [.agg (Thing.cells a0)] [] = some (F18_e r) := by
  refine fn_to (D := D) (n := n + 8) (nt := 31) (rs := pc18_r) (c := pc18_c22) (L := [(0, .agg (Thing.cells a0))]) (M := []) (k := 0) rfl rfl rfl rfl rfl rfl rfl ?_
  unfold F18
  refine Sim.sr 2 [(2, qb false), (1, qp 1 0)] [(1, some (.cells (Thing.cells a0)))] (.st 4 [(8, qb (decide ((0 : Int) ≤ a0.ID))), (7, qb (decide ((0 : Int) ≤ a0.ID))), (6, qj a0.ID), (5, qp 1 0)] [] (.split 8 (decide ((0 : Int) ≤ a0.ID)) (by kernel_rfl) ?_ ?_))
  · refine SimI.rn 5 [(13, qb (decide (a0.ID ≤ 1000000))), (12, qb (decide (a0.ID ≤ 1000000))), (11, qb (decide (a0.ID ≤ 1000000))), (10, qj a0.ID), (9, qp 1 0)] [] (.split 13 (decide (a0.ID ≤ 1000000)) (by kernel_rfl) ?_ ?_)
    · refine SimI.rn 2 [(15, .agg [lj a0.At.X, lj a0.At.Y]), (14, qp 1 1)] [] (.cl 16 true [[]] 58 [Operand.tmp 15] (some (13, true)) (fun r1 => qb r1) [.agg [lj a0.At.X, lj a0.At.Y]] (F58_ok n a0.At) (fun r1 => ?_))
      refine SimI.rd 2 [(3, qb r1), (17, qb r1)] [] (.thenN (.pr [1, 3] [1] [] [(1, qp 1 0), (3, qb r1)] [(1, some (.cells (Thing.cells a0)))] ?_))
      exact F18_j3_ok n a0 r1
    · refine SimI.rd 5 [(3, qb false), (17, qb false), (16, .tup []), (15, .tup []), (14, .tup [])] [] (.thenN (.pr [1, 3] [1] [] [(1, qp 1 0), (3, qb false)] [(1, some (.cells (Thing.cells a0)))] ?_))
      exact F18_j3_ok n a0 false
  · refine SimI.rd 10 [(3, qb false), (17, qb false), (16, .tup []), (15, .tup []), (14, .tup []), (13, qb false), (12, qb false), (11, .tup []), (10, .tup []), (9, .tup [])] [] (.thenN (.pr [1, 3] [1] [] [(1, qp 1 0), (3, qb false)] [(1, some (.cells (Thing.cells a0)))] ?_))
    exact F18_j3_ok n a0 false


-- 37: vedette/vedettelaw16.rising
def F37_e : Bool → PV × List Ob := fun r => (.one (lb r), [])
def F37_l4 (n : Nat) (a0 : (List Thing)) : Nat → Int → Option Bool
  | 0, _ => none
  | m + 1, i3 =>
    if decide (i3 < ((a0).length : Int)) then
      (ix a0 i3).bind fun (x5 : Thing) =>
      (F18 n x5).bind fun (r6 : Bool) =>
      if !(r6) then
        some false
      else
        if decide ((0 : Int) < i3) then
          (ix a0 i3).bind fun (x7 : Thing) =>
          (ix a0 (IntKind.wrap .i64 (i3 - 1))).bind fun (x8 : Thing) =>
          if decide (x7.ID ≤ x8.ID) then
            some false
          else
            (F37_l4 n a0 m) (IntKind.wrap .i64 (i3 + 1))
        else
          (F37_l4 n a0 m) (IntKind.wrap .i64 (i3 + 1))
    else
      some true
theorem F37_l4_ok (n : Nat) (a0 : (List Thing)) : ∀ (m : Nat) (i3 : Int), SimL Try.prog D (n + 8) m pc37_c18 [(0, .one (vw Thing.cod a0)), (3, qj i3)] [] (F37_l4 n a0 m i3) (QB 0 (QT Try.prog D (n + 8) pc37_c24 (QF false pc37_r 0 F37_e))) := by
  intro m_l4
  induction m_l4 with
  | zero => intro i3; exact SimL.zero'  rfl
  | succ m_l4 ih_l4 =>
    intro i3
    refine SimL.succ ?_
    unfold F37_l4
    refine Sim.seq (.seq (.rg [(0, .one (vw Thing.cod a0)), (3, qj i3)] [] (.rd 4 [(7, qb (decide (i3 < ((a0).length : Int)))), (6, qj ((a0).length : Int)), (5, .one (vw Thing.cod a0)), (4, qj i3)] [] (.thenN (.cond (decide (i3 < ((a0).length : Int))) (by kernel_rfl) ?_ ?_)))))
    · refine Sim.skip (.thenN (.seq (.block (.st 2 [(11, qj i3), (10, .one (vw Thing.cod a0))] [] (.bind (og := ix a0 i3) ⟨some 12, POp.iaddrS 11 (Operand.tmp 10) (Operand.tmp 11), none, [(10, Hint.imm), (11, Hint.imm)]⟩ (fun x5 => [(12, .one (.eptr (Thing.cod.enc x5) 0))]) (fun x5 => []) (by kernel_rfl) (fun x5 hr => pOp_eff (by kernel_rfl) (by kernel_rfl) (eff_idx (c := Thing.cod) (l := a0) (k := .i64) (n := i3) (by kernel_rfl) (by kernel_rfl) (by kernel_rfl) hr)) (fun x5 => ?_))))))
      refine SimI.rn 1 [(13, .agg (Thing.cells x5))] [] (.bind (og := F18 n x5) ⟨some 14, POp.call false [[]] 18 [Operand.tmp 13], none, [(13, Hint.imm)]⟩ (fun r6 => [(14, qb r6)]) (fun r6 => []) (by kernel_rfl) (fun r6 hr => pOp_eff (by kernel_rfl) (by kernel_rfl) (eff_call (ARGS := [.agg (Thing.cells x5)]) (by kernel_rfl) (args_clean (by kernel_rfl) args_nil) (F18_ok n x5 r6 hr) (by kernel_rfl))) (fun r6 => ?_))
      refine SimI.rn 2 [(16, qb (!(r6))), (15, qb (!(r6)))] [] (.split 16 (!(r6)) (by kernel_rfl) ?_ ?_)
      · exact SimI.rd 17 [(33, qb true), (32, .tup []), (31, .tup []), (30, .tup []), (29, .tup []), (28, .tup []), (27, .tup []), (26, .tup []), (25, .tup []), (24, .tup []), (23, .tup []), (22, .tup []), (21, .tup []), (20, .tup []), (19, .tup []), (18, .tup []), (17, .tup [])] [] (.thenN (.condT (by kernel_rfl) (.sr 1 [(2, qb false)] [] (.ret (.blockR (.thenR (.loopR (.blockR (.thenR .fn)))))))))
      · refine SimI.rn 3 [(19, qb (decide ((0 : Int) < i3))), (18, qb (decide ((0 : Int) < i3))), (17, qj i3)] [] (.split 19 (decide ((0 : Int) < i3)) (by kernel_rfl) ?_ ?_)
        · refine SimI.rn 2 [(21, qj i3), (20, .one (vw Thing.cod a0))] [] (.bind (og := ix a0 i3) ⟨some 22, POp.iaddrS 11 (Operand.tmp 20) (Operand.tmp 21), some (19, true), [(20, Hint.imm), (21, Hint.imm)]⟩ (fun x7 => [(22, .one (.eptr (Thing.cod.enc x7) 0))]) (fun x7 => []) (by kernel_rfl) (fun x7 hr => pOp_eff (by kernel_rfl) (by kernel_rfl) (eff_idx (c := Thing.cod) (l := a0) (k := .i64) (n := i3) (by kernel_rfl) (by kernel_rfl) (by kernel_rfl) hr)) (fun x7 => ?_))
          refine SimI.rn 5 [(27, qj (IntKind.wrap .i64 (i3 - 1))), (26, qj i3), (25, .one (vw Thing.cod a0)), (24, qj x7.ID), (23, .one (.eptr (Thing.cod.enc x7) 0))] [] (.bind (og := ix a0 (IntKind.wrap .i64 (i3 - 1))) ⟨some 28, POp.iaddrS 11 (Operand.tmp 25) (Operand.tmp 27), some (19, true), [(25, Hint.imm), (27, Hint.imm)]⟩ (fun x8 => [(28, .one (.eptr (Thing.cod.enc x8) 0))]) (fun x8 => []) (by kernel_rfl) (fun x8 hr => pOp_eff (by kernel_rfl) (by kernel_rfl) (eff_idx (c := Thing.cod) (l := a0) (k := .i64) (n := IntKind.wrap .i64 (i3 - 1)) (by kernel_rfl) (by kernel_rfl) (by kernel_rfl) hr)) (fun x8 => ?_))
          refine SimI.rd 5 [(33, qb (decide (x7.ID ≤ x8.ID))), (32, qb (decide (x7.ID ≤ x8.ID))), (31, qb (decide (x7.ID ≤ x8.ID))), (30, qj x8.ID), (29, .one (.eptr (Thing.cod.enc x8) 0))] [] (.thenN (.cond (decide (x7.ID ≤ x8.ID)) (by kernel_rfl) ?_ ?_))
          · exact Sim.sr 1 [(2, qb false)] [] (.ret (.blockR (.thenR (.loopR (.blockR (.thenR .fn))))))
          · refine Sim.skip (.blockN (.thenN (.region0 (.rd 3 [(3, qj (IntKind.wrap .i64 (i3 + 1))), (9, qj (IntKind.wrap .i64 (i3 + 1))), (8, qj i3)] [] (.loopN (.pr [0, 3] [] [] [(0, .one (vw Thing.cod a0)), (3, qj (IntKind.wrap .i64 (i3 + 1)))] [] ?_))))))
            exact ih_l4 (IntKind.wrap .i64 (i3 + 1))
        · refine SimI.rd 14 [(33, qb false), (32, qb false), (31, .tup []), (30, .tup []), (29, .tup []), (28, .tup []), (27, .tup []), (26, .tup []), (25, .tup []), (24, .tup []), (23, .tup []), (22, .tup []), (21, .tup []), (20, .tup [])] [] (.thenN (.condF (by kernel_rfl) (.skip (.blockN (.thenN (.region0 (.rd 3 [(3, qj (IntKind.wrap .i64 (i3 + 1))), (9, qj (IntKind.wrap .i64 (i3 + 1))), (8, qj i3)] [] (.loopN (.pr [0, 3] [] [] [(0, .one (vw Thing.cod a0)), (3, qj (IntKind.wrap .i64 (i3 + 1)))] [] ?_)))))))))
          exact ih_l4 (IntKind.wrap .i64 (i3 + 1))
    · exact Sim.exit (.thenX (.loopX (.blockX (.thenN (.sr 1 [(2, qb true)] [] (.ret .fn))))))

def F37 (n : Nat) (a0 : (List Thing)) : Option Bool :=
  F37_l4 n a0 (n + 8) 0
theorem F37_ok (n : Nat) (a0 : (List Thing)) : ∀ r, F37 n a0 = some r → D 37 [.one (vw Thing.cod a0)] [] = some (F37_e r) := by
  refine fn_to (D := D) (n := n + 8) (nt := 34) (rs := pc37_r) (c := pc37_c26) (L := [(0, .one (vw Thing.cod a0))]) (M := []) (k := 0) rfl rfl rfl rfl rfl rfl rfl ?_
  unfold F37
  refine Sim.sr 1 [(2, qb false)] [] (.seq (.sr 1 [(3, qj 0)] [] (.block (.loop (.pr [0, 3] [] [] [(0, .one (vw Thing.cod a0)), (3, qj 0)] [] ?_)))))
  exact F37_l4_ok n a0 (n + 8) 0


-- 67: vedette/geom.On
def F67_e : Bool → PV × List Ob := fun r => (.one (lb r), [])
def F67 (n : Nat) (a0 : Point) : Option Bool :=
  if decide ((0 : Int) ≤ a0.X) then
    if decide (a0.X < 64) then
      if decide ((0 : Int) ≤ a0.Y) then
        some (decide (a0.Y < 64))
      else
        some false
    else
      some false
  else
    some false
theorem F67_ok (n : Nat) (a0 : Point) : ∀ r, F67 n a0 = some r → D 67 [.agg [li .i64 a0.X, li .i64 a0.Y]] [] = some (F67_e r) := by
  refine fn_to (D := D) (n := n + 8) (nt := 21) (rs := pc67_r) (c := pc67_c5) (L := [(0, .agg [lj a0.X, lj a0.Y])]) (M := []) (k := 0) rfl rfl rfl rfl rfl rfl rfl ?_
  unfold F67
  refine Sim.sr 2 [(2, qb false), (1, qp 1 0)] [(1, some (.cells [lj a0.X, lj a0.Y]))] (.st 4 [(6, qb (decide ((0 : Int) ≤ a0.X))), (5, qb (decide ((0 : Int) ≤ a0.X))), (4, qj a0.X), (3, qp 1 0)] [] (.split 6 (decide ((0 : Int) ≤ a0.X)) (by kernel_rfl) ?_ ?_))
  · refine SimI.rn 5 [(11, qb (decide (a0.X < 64))), (10, qb (decide (a0.X < 64))), (9, qb (decide (a0.X < 64))), (8, qj a0.X), (7, qp 1 0)] [] (.split 11 (decide (a0.X < 64)) (by kernel_rfl) ?_ ?_)
    · refine SimI.rn 5 [(16, qb (decide ((0 : Int) ≤ a0.Y))), (15, qb (decide ((0 : Int) ≤ a0.Y))), (14, qb (decide ((0 : Int) ≤ a0.Y))), (13, qj a0.Y), (12, qp 1 1)] [] (.split 16 (decide ((0 : Int) ≤ a0.Y)) (by kernel_rfl) ?_ ?_)
      · exact SimI.rd 5 [(2, qb (decide (a0.Y < 64))), (20, qb (decide (a0.Y < 64))), (19, qb (decide (a0.Y < 64))), (18, qj a0.Y), (17, qp 1 1)] [] (.thenN (.ret .fn))
      · exact SimI.rd 5 [(2, qb false), (20, qb false), (19, .tup []), (18, .tup []), (17, .tup [])] [] (.thenN (.ret .fn))
    · exact SimI.rd 10 [(2, qb false), (20, qb false), (19, .tup []), (18, .tup []), (17, .tup []), (16, qb false), (15, qb false), (14, .tup []), (13, .tup []), (12, .tup [])] [] (.thenN (.ret .fn))
  · exact SimI.rd 15 [(2, qb false), (20, qb false), (19, .tup []), (18, .tup []), (17, .tup []), (16, qb false), (15, qb false), (14, .tup []), (13, .tup []), (12, .tup []), (11, qb false), (10, qb false), (9, .tup []), (8, .tup []), (7, .tup [])] [] (.thenN (.ret .fn))


-- 70: vedette/fields.IsField
def F70_e : Bool → PV × List Ob := fun r => (.one (lb r), [])
def F70 (n : Nat) (a0 : Field) : Option Bool :=
  if a0.N == 0 then
    some (decide ((a0.Text.size : Int) ≤ 12))
  else
    if a0.Text.toList == ByteArray.empty.toList then
      some (decide ((a0.Text.size : Int) ≤ 12))
    else
      some false
theorem F70_ok (n : Nat) (a0 : Field) : ∀ r, F70 n a0 = some r → D 70 [.agg [li .i64 a0.N, ls a0.Text]] [] = some (F70_e r) := by
  refine fn_to (D := D) (n := n + 8) (nt := 17) (rs := pc70_r) (c := pc70_c5) (L := [(0, .agg [lj a0.N, ls a0.Text])]) (M := []) (k := 0) rfl rfl rfl rfl rfl rfl rfl ?_
  unfold F70
  refine Sim.sr 2 [(2, qb false), (1, qp 1 0)] [(1, some (.cells [lj a0.N, ls a0.Text]))] (.st 4 [(6, qb (a0.N == 0)), (5, qb (a0.N == 0)), (4, qj a0.N), (3, qp 1 0)] [] (.split 6 (a0.N == 0) (by kernel_rfl) ?_ ?_))
  · exact SimI.rd 11 [(2, qb (decide ((a0.Text.size : Int) ≤ 12))), (16, qb (decide ((a0.Text.size : Int) ≤ 12))), (15, qb (decide ((a0.Text.size : Int) ≤ 12))), (14, qj (a0.Text.size : Int)), (13, qs a0.Text), (12, qp 1 1), (11, qb true), (10, qb true), (9, .tup []), (8, .tup []), (7, .tup [])] [] (.thenN (.ret .fn))
  · refine SimI.rn 5 [(11, qb (a0.Text.toList == be.toList)), (10, qb (a0.Text.toList == be.toList)), (9, qb (a0.Text.toList == be.toList)), (8, qs a0.Text), (7, qp 1 1)] [] (.split 11 (a0.Text.toList == be.toList) (by kernel_rfl) ?_ ?_)
    · exact SimI.rd 6 [(2, qb (decide ((a0.Text.size : Int) ≤ 12))), (16, qb (decide ((a0.Text.size : Int) ≤ 12))), (15, qb (decide ((a0.Text.size : Int) ≤ 12))), (14, qj (a0.Text.size : Int)), (13, qs a0.Text), (12, qp 1 1)] [] (.thenN (.ret .fn))
    · exact SimI.rd 6 [(2, qb false), (16, qb false), (15, .tup []), (14, .tup []), (13, .tup []), (12, .tup [])] [] (.thenN (.ret .fn))


-- 69: vedette/thing.Is$1
def F69_e : Bool → PV × List Ob := fun r => (.one (lb r), [])
def F69 (n : Nat) (a0 : Field) : Option Bool :=
  (F70 n a0).bind fun (r1 : Bool) =>
  some (!(r1))
theorem F69_ok (n : Nat) (a0 : Field) : ∀ r, F69 n a0 = some r → D 69 [.agg [li .i64 a0.N, ls a0.Text]] [] = some (F69_e r) := by
  refine fn_to (D := D) (n := n + 8) (nt := 6) (rs := pc69_r) (c := pc69_c5) (L := [(0, .agg [lj a0.N, ls a0.Text])]) (M := []) (k := 0) rfl rfl rfl rfl rfl rfl rfl ?_
  unfold F69
  refine Sim.sr 2 [(2, qb false), (1, qp 1 0)] [(1, some (.cells [lj a0.N, ls a0.Text]))] (.st 1 [(3, .agg [lj a0.N, ls a0.Text])] [] (.cl 4 true [[]] 70 [Operand.tmp 3] none (fun r1 => qb r1) [.agg [lj a0.N, ls a0.Text]] (F70_ok n a0) (fun r1 => ?_)))
  exact SimI.rd 2 [(2, qb (!(r1))), (5, qb (!(r1)))] [] (.thenN (.ret .fn))


-- 103: slices.IndexFunc[[]vedette/api.Field,vedette/api.Field]
def F103s0_e (a0 : (List Field)) : Int → PV × List Ob := fun r => (.one (li .i64 r), [])
def F103s0_l4 (n : Nat) (a0 : (List Field)) : Nat → Int → Option Int
  | 0, _ => none
  | m + 1, i3 =>
    if decide (i3 < ((a0).length : Int)) then
      (ix a0 i3).bind fun (x5 : Field) =>
      (F69 n x5).bind fun (r6 : Bool) =>
      if r6 then
        some i3
      else
        (F103s0_l4 n a0 m) (IntKind.wrap .i64 (i3 + 1))
    else
      some (-1)
theorem F103s0_l4_ok (n : Nat) (a0 : (List Field)) : ∀ (m : Nat) (i3 : Int), SimL Try.prog D (n + 8) m pc103_c20 [(0, .one (vw Field.cod a0)), (1, .one (.val (.func (.func 69) #[] #[]))), (7, qj ((a0).length : Int)), (8, qj i3)] [] (F103s0_l4 n a0 m i3) (QB 0 (QT Try.prog D (n + 8) pc103_c26 (QF false pc103_r 0 (F103s0_e a0)))) := by
  intro m_l4
  induction m_l4 with
  | zero => intro i3; exact SimL.zero'  rfl
  | succ m_l4 ih_l4 =>
    intro i3
    refine SimL.succ ?_
    unfold F103s0_l4
    refine Sim.seq (.rg [(0, .one (vw Field.cod a0)), (1, .one (.val (.func (.func 69) #[] #[]))), (7, qj ((a0).length : Int)), (8, qj i3)] [] (.rd 1 [(9, qb (decide (i3 < ((a0).length : Int))))] [] (.thenN (.seq (.cond (decide (i3 < ((a0).length : Int))) (by kernel_rfl) ?_ ?_)))))
    · refine Sim.skip (.thenN (.seq (.block (.sr 2 [(5, qj i3), (10, qj i3)] [] (.st 3 [(13, qj i3), (12, .one (vw Field.cod a0)), (11, .one (.val (.func (.func 69) #[] #[])))] [] (.bind (og := ix a0 i3) ⟨some 14, POp.iaddrS 2 (Operand.tmp 12) (Operand.tmp 13), none, []⟩ (fun x5 => [(14, .one (.eptr (Field.cod.enc x5) 0))]) (fun x5 => []) (by kernel_rfl) (fun x5 hr => pOp_eff (by kernel_rfl) (by kernel_rfl) (eff_idx (c := Field.cod) (l := a0) (k := .i64) (n := i3) (by kernel_rfl) (by kernel_rfl) (by kernel_rfl) hr)) (fun x5 => ?_)))))))
      refine SimI.rn 1 [(15, .agg [lj x5.N, ls x5.Text])] [] (.bind (og := F69 n x5) ⟨some 16, POp.callv true [[]] (Operand.tmp 11) [Operand.tmp 15], none, []⟩ (fun r6 => [(16, qb r6)]) (fun r6 => []) (by kernel_rfl) (fun r6 hr => pOp_eff (by kernel_rfl) (by kernel_rfl) (eff_callvv (by kernel_rfl) (ARGS := [.agg [lj x5.N, ls x5.Text]]) (by kernel_rfl) (args_clean (by kernel_rfl) args_nil) (F69_ok n x5 r6 hr) (by kernel_rfl))) (fun r6 => ?_))
      refine SimI.dn (.thenN (.cond r6 (by kernel_rfl) ?_ ?_))
      · exact Sim.sr 2 [(4, qj i3), (17, qj i3)] [] (.ret (.blockR (.thenR (.loopR (.blockR (.thenR .fn))))))
      · refine Sim.skip (.blockN (.thenN (.region0 (.rd 2 [(8, qj (IntKind.wrap .i64 (i3 + 1))), (18, qj (IntKind.wrap .i64 (i3 + 1)))] [] (.loopN (.pr [0, 1, 7, 8] [] [] [(0, .one (vw Field.cod a0)), (1, .one (.val (.func (.func 69) #[] #[]))), (7, qj ((a0).length : Int)), (8, qj (IntKind.wrap .i64 (i3 + 1)))] [] ?_))))))
        exact ih_l4 (IntKind.wrap .i64 (i3 + 1))
    · exact Sim.exit (.thenX (.loopX (.blockX (.thenN (.sr 1 [(4, qj (-1))] [] (.ret .fn))))))

def F103s0 (n : Nat) (a0 : (List Field)) : Option Int :=
  F103s0_l4 n a0 (n + 8) 0
theorem F103s0_ok (n : Nat) (a0 : (List Field)) : ∀ r, F103s0 n a0 = some r → D 103 [.one (vw Field.cod a0), .one (.val (.func (.func 69) #[] #[]))] [] = some ((F103s0_e a0) r) := by
  refine fn_to (D := D) (n := n + 8) (nt := 19) (rs := pc103_r) (c := pc103_c28) (L := [(0, .one (vw Field.cod a0)), (1, .one (.val (.func (.func 69) #[] #[])))]) (M := []) (k := 0) rfl rfl rfl rfl rfl rfl rfl ?_
  unfold F103s0
  refine Sim.sr 1 [(4, qj 0)] [] (.seq (.sr 3 [(8, qj 0), (7, qj ((a0).length : Int)), (6, .one (vw Field.cod a0))] [] (.block (.loop (.pr [0, 1, 7, 8] [] [] [(0, .one (vw Field.cod a0)), (1, .one (.val (.func (.func 69) #[] #[]))), (7, qj ((a0).length : Int)), (8, qj 0)] [] ?_)))))
  exact F103s0_l4_ok n a0 (n + 8) 0


-- 68: slices.ContainsFunc[[]vedette/api.Field,vedette/api.Field]
def F68s0_e (a0 : (List Field)) : Bool → PV × List Ob := fun r => (.one (lb r), [])
def F68s0 (n : Nat) (a0 : (List Field)) : Option Bool :=
  (F103s0 n a0).bind fun (r1 : Int) =>
  some (decide ((0 : Int) ≤ r1))
theorem F68s0_ok (n : Nat) (a0 : (List Field)) : ∀ r, F68s0 n a0 = some r → D 68 [.one (vw Field.cod a0), .one (.val (.func (.func 69) #[] #[]))] [] = some ((F68s0_e a0) r) := by
  refine fn_to (D := D) (n := n + 8) (nt := 9) (rs := pc68_r) (c := pc68_c5) (L := [(0, .one (vw Field.cod a0)), (1, .one (.val (.func (.func 69) #[] #[])))]) (M := []) (k := 0) rfl rfl rfl rfl rfl rfl rfl ?_
  unfold F68s0
  refine Sim.sr 1 [(4, qb false)] [] (.st 2 [(6, .one (.val (.func (.func 69) #[] #[]))), (5, .one (vw Field.cod a0))] [] (.bind (og := F103s0 n a0) ⟨some 7, POp.gcall false false [300000, 300001, 300002, 300003, 300004, 300005, 300006, 300007] [[(0, 2)], []] 103 [Operand.tmp 5, Operand.tmp 6], none, []⟩ (fun r1 => [(7, qj r1)]) (fun r1 => []) (by kernel_rfl) (fun r1 hr => pOp_eff (by kernel_rfl) (by kernel_rfl) (eff_gcall (ks := []) (rks := []) (new := []) (ARGS := [.one (vw Field.cod a0), .one (.val (.func (.func 69) #[] #[]))]) (args1 := [.one (vw Field.cod a0), .one (.val (.func (.func 69) #[] #[]))]) (args2 := [.one (vw Field.cod a0), .one (.val (.func (.func 69) #[] #[]))]) (os := []) (os' := []) (os1 := []) (res := qj r1) (res1 := qj r1) (r := qj r1) (N := []) (by kernel_rfl) (readA_ow (readA_keep (by kernel_rfl) (readA_keep (by kernel_rfl) (readA_nil)))) (by kernel_rfl) (by kernel_rfl) (by kernel_rfl) (by kernel_rfl) (F103s0_ok n a0 r1 hr) (by kernel_rfl) (by kernel_rfl) (by kernel_rfl) rfl (by kernel_rfl) (by kernel_rfl) (by kernel_rfl))) (fun r1 => ?_)))
  exact SimI.rd 2 [(4, qb (decide ((0 : Int) ≤ r1))), (8, qb (decide ((0 : Int) ≤ r1)))] [] (.thenN (.ret .fn))


-- 24: vedette/thing.Is
def F24_e : Bool → PV × List Ob := fun r => (.one (lb r), [])
def F24 (n : Nat) (a0 : Thing) : Option Bool :=
  if decide ((0 : Int) ≤ a0.ID) then
    if decide (a0.ID ≤ 1000000) then
      (F67 n a0.At).bind fun (r1 : Bool) =>
      if r1 then
        (F68s0 n [a0.F.a0, a0.F.a1, a0.F.a2, a0.F.a3]).bind fun (r2 : Bool) =>
        some (!(r2))
      else
        some false
    else
      some false
  else
    some false
theorem F24_ok (n : Nat) (a0 : Thing) : ∀ r, F24 n a0 = some r → D 24 [.agg (Thing.cells a0)] [] = some (F24_e r) := by
  refine fn_to (D := D) (n := n + 8) (nt := 22) (rs := pc24_r) (c := pc24_c5) (L := [(0, .agg (Thing.cells a0))]) (M := []) (k := 0) rfl rfl rfl rfl rfl rfl rfl ?_
  unfold F24
  refine Sim.sr 2 [(2, qb false), (1, qp 1 0)] [(1, some (.cells (Thing.cells a0)))] (.st 4 [(6, qb (decide ((0 : Int) ≤ a0.ID))), (5, qb (decide ((0 : Int) ≤ a0.ID))), (4, qj a0.ID), (3, qp 1 0)] [] (.split 6 (decide ((0 : Int) ≤ a0.ID)) (by kernel_rfl) ?_ ?_))
  · refine SimI.rn 5 [(11, qb (decide (a0.ID ≤ 1000000))), (10, qb (decide (a0.ID ≤ 1000000))), (9, qb (decide (a0.ID ≤ 1000000))), (8, qj a0.ID), (7, qp 1 0)] [] (.split 11 (decide (a0.ID ≤ 1000000)) (by kernel_rfl) ?_ ?_)
    · refine SimI.rn 2 [(13, .agg [lj a0.At.X, lj a0.At.Y]), (12, qp 1 1)] [] (.cl 14 true [[]] 67 [Operand.tmp 13] (some (11, true)) (fun r1 => qb r1) [.agg [lj a0.At.X, lj a0.At.Y]] (F67_ok n a0.At) (fun r1 => ?_))
      refine SimI.rn 2 [(16, qb r1), (15, qb r1)] [] (.split 16 r1 (by kernel_rfl) ?_ ?_)
      · refine SimI.rn 2 [(18, .one (.csl 1 2 3 4)), (17, qp 1 3)] [] (.bind (og := F68s0 n [a0.F.a0, a0.F.a1, a0.F.a2, a0.F.a3]) ⟨some 19, POp.gcall false false [1, 300000, 300001, 300002, 300003, 300004, 300005, 300006, 300007] [[(0, 2)], []] 68 [Operand.tmp 18, Operand.func 69], some (16, true), []⟩ (fun r2 => [(19, qb r2)]) (fun r2 => []) (by kernel_rfl) (fun r2 hr => pOp_eff (by kernel_rfl) (by kernel_rfl) (eff_gcall (ks := []) (rks := [1]) (new := []) (ARGS := [.one (.csl 1 2 3 4), .one (.val (.func (.func 69) #[] #[]))]) (args1 := [.one (vw Field.cod [a0.F.a0, a0.F.a1, a0.F.a2, a0.F.a3]), .one (.val (.func (.func 69) #[] #[]))]) (args2 := [.one (vw Field.cod [a0.F.a0, a0.F.a1, a0.F.a2, a0.F.a3]), .one (.val (.func (.func 69) #[] #[]))]) (os := []) (os' := []) (os1 := []) (res := qb r2) (res1 := qb r2) (r := qb r2) (N := []) (by kernel_rfl) (readA_ow (readA_csl (c := Field.cod) (k := 1) (off := 3) (cs := (Thing.cells a0)) (l := [a0.F.a0, a0.F.a1, a0.F.a2, a0.F.a3]) (by kernel_rfl) (by kernel_rfl) (by kernel_rfl) (by kernel_rfl) (readA_keep (by kernel_rfl) (readA_nil)))) (by kernel_rfl) (by kernel_rfl) (by kernel_rfl) (by kernel_rfl) (F68s0_ok n [a0.F.a0, a0.F.a1, a0.F.a2, a0.F.a3] r2 hr) (by kernel_rfl) (by kernel_rfl) (by kernel_rfl) rfl (by kernel_rfl) (by kernel_rfl) (by kernel_rfl))) (fun r2 => ?_))
        exact SimI.rd 3 [(2, qb (!(r2))), (21, qb (!(r2))), (20, qb (!(r2)))] [] (.thenN (.ret .fn))
      · exact SimI.rd 6 [(2, qb false), (21, qb false), (20, .tup []), (19, .tup []), (18, .tup []), (17, .tup [])] [] (.thenN (.ret .fn))
    · exact SimI.rd 11 [(2, qb false), (21, qb false), (20, .tup []), (19, .tup []), (18, .tup []), (17, .tup []), (16, qb false), (15, qb false), (14, .tup []), (13, .tup []), (12, .tup [])] [] (.thenN (.ret .fn))
  · exact SimI.rd 16 [(2, qb false), (21, qb false), (20, .tup []), (19, .tup []), (18, .tup []), (17, .tup []), (16, qb false), (15, qb false), (14, .tup []), (13, .tup []), (12, .tup []), (11, qb false), (10, qb false), (9, .tup []), (8, .tup []), (7, .tup [])] [] (.thenN (.ret .fn))


-- 99: vedette/fields.has
def F99_e : Bool → PV × List Ob := fun r => (.one (lb r), [])
def F99 (n : Nat) (a0 : Int) (a1 : Int) : Option Bool :=
  if ¬ (IntKind.wrap .i64 (a1 + 1) < 0) then
    some ((bitsI .and .u8 (shrI .u8 a0 (IntKind.wrap .i64 (a1 + 1))) 1) == 1)
  else none
theorem F99_ok (n : Nat) (a0 : Int) (a1 : Int) : ∀ r, F99 n a0 a1 = some r → D 99 [.one (li .u8 a0), .one (li .i64 a1)] [] = some (F99_e r) := by
  refine fn_to (D := D) (n := n + 8) (nt := 11) (rs := pc99_r) (c := pc99_c5) (L := [(0, .one (li .u8 a0)), (1, qj a1)]) (M := []) (k := 0) rfl rfl rfl rfl rfl rfl rfl ?_
  unfold F99
  exact Sim.sr 1 [(4, qb false)] [] (.st 3 [(7, qj (IntKind.wrap .i64 (a1 + 1))), (6, qj a1), (5, .one (li .u8 a0))] [] (.guard (c := ¬ (IntKind.wrap .i64 (a1 + 1) < 0)) ⟨some 8, POp.prim (Prim.bin BinOp.shr 5 false false) [Operand.tmp 5, Operand.tmp 7], none, []⟩ [(8, .one (li .u8 (shrI .u8 a0 (IntKind.wrap .i64 (a1 + 1)))))] [] (by kernel_rfl) (fun hc => pOp_eff (by kernel_rfl) (by kernel_rfl) (eff_prim (by kernel_rfl) (pr_shr _ _ _ .u8 .i64 a0 (IntKind.wrap .i64 (a1 + 1)) hc))) (.rd 3 [(4, qb ((bitsI .and .u8 (shrI .u8 a0 (IntKind.wrap .i64 (a1 + 1))) 1) == 1)), (10, qb ((bitsI .and .u8 (shrI .u8 a0 (IntKind.wrap .i64 (a1 + 1))) 1) == 1)), (9, .one (li .u8 (bitsI .and .u8 (shrI .u8 a0 (IntKind.wrap .i64 (a1 + 1))) 1)))] [] (.thenN (.ret .fn)))))


-- 77: vedette/fields.IsDelta
def F77_e : Bool → PV × List Ob := fun r => (.one (lb r), [])
def F77_u15 (n : Nat) : Option Bool :=
    some true
theorem F77_u15_ok (n : Nat) (a0 : Delta) : SimL Try.prog D (n + 8) (n + 4) pc77_c34 [(1, qp 1 0), (40, .agg (A4_Field.cells a0.F)), (41, qj 4)] [(1, some (.cells (Delta.cells a0)))] (F77_u15 n) (QB 0 (QT Try.prog D (n + 8) pc77_c40 (QF false pc77_r 0 F77_e))) := by
    unfold F77_u15
    exact SimL.succ (.seq (.rg [(1, qp 1 0), (40, .agg (A4_Field.cells a0.F)), (41, qj 4)] [(1, some (.cells (Delta.cells a0)))] (.rd 1 [(42, qb false)] [] (.thenN (.seq (.condF (by kernel_rfl) (.exit (.thenX (.loopX (.blockX (.thenN (.sr 1 [(2, qb true)] [] (.ret .fn)))))))))))))

def F77_u12 (n : Nat) (a0 : Delta) : Option Bool :=
    (F70 n a0.F.a3).bind fun (r13 : Bool) =>
    if !(r13) then
      some false
    else
      (F99 n a0.Mask 3).bind fun (r14 : Bool) =>
      if !(r14) then
        if !(Field.eqb a0.F.a3 (Field.mk 0 ByteArray.empty)) then
          some false
        else
          F77_u15 n
      else
        F77_u15 n
theorem F77_u12_ok (n : Nat) (a0 : Delta) : SimL Try.prog D (n + 8) (n + 5) pc77_c34 [(1, qp 1 0), (40, .agg (A4_Field.cells a0.F)), (41, qj 3)] [(1, some (.cells (Delta.cells a0)))] (F77_u12 n a0) (QB 0 (QT Try.prog D (n + 8) pc77_c40 (QF false pc77_r 0 F77_e))) := by
    unfold F77_u12
    refine SimL.succ (.seq (.rg [(1, qp 1 0), (40, .agg (A4_Field.cells a0.F)), (41, qj 3)] [(1, some (.cells (Delta.cells a0)))] (.rd 1 [(42, qb true)] [] (.thenN (.seq (.condT (by kernel_rfl) (.skip (.thenN (.seq (.block (.sr 5 [(3, qj 3), (4, qp 4 0), (44, .agg [lj a0.F.a3.N, ls a0.F.a3.Text]), (43, qj 3)] [(4, some (.cells [lj a0.F.a3.N, ls a0.F.a3.Text])), (4, some (.cells [lj 0, ls be]))] (.st 1 [(45, .agg [lj a0.F.a3.N, ls a0.F.a3.Text])] [] (.cl 46 true [[]] 70 [Operand.tmp 45] none (fun r13 => qb r13) [.agg [lj a0.F.a3.N, ls a0.F.a3.Text]] (F70_ok n a0.F.a3) (fun r13 => ?_))))))))))))))
    refine SimI.rn 2 [(48, qb (!(r13))), (47, qb (!(r13)))] [] (.split 48 (!(r13)) (by kernel_rfl) ?_ ?_)
    · exact SimI.rd 11 [(59, qb true), (58, .tup []), (57, .tup []), (56, .tup []), (55, .tup []), (54, .tup []), (53, .tup []), (52, .tup []), (51, .tup []), (50, .tup []), (49, .tup [])] [] (.thenN (.condT (by kernel_rfl) (.sr 1 [(2, qb false)] [] (.ret (.blockR (.thenR (.loopR (.blockR (.thenR .fn)))))))))
    · refine SimI.rn 3 [(51, qj 3), (50, .one (li .u8 a0.Mask)), (49, qp 1 1)] [] (.cl 52 true [[], []] 99 [Operand.tmp 50, Operand.tmp 51] (some (48, false)) (fun r14 => qb r14) [.one (li .u8 a0.Mask), qj 3] (F99_ok n a0.Mask 3) (fun r14 => ?_))
      refine SimI.rn 2 [(54, qb (!(r14))), (53, qb (!(r14)))] [] (.split 54 (!(r14)) (by kernel_rfl) ?_ ?_)
      · refine SimI.rn 2 [(56, .agg [lj 0, ls be]), (55, .agg [lj a0.F.a3.N, ls a0.F.a3.Text])] [] (.step ⟨some 57, POp.prim (Prim.bin BinOp.neq 25 false false) [Operand.tmp 55, Operand.tmp 56], some (54, true), []⟩ [(57, qb (!(Field.eqb a0.F.a3 (Field.mk 0 be))))] [] (by kernel_rfl) (pOp_eff (by kernel_rfl) (by kernel_rfl) (eff_prim (by kernel_rfl) (Field_eqn a0.F.a3 (Field.mk 0 be) _ _))) (.rd 2 [(59, qb (!(Field.eqb a0.F.a3 (Field.mk 0 be)))), (58, qb (!(Field.eqb a0.F.a3 (Field.mk 0 be))))] [] (.thenN (.cond (!(Field.eqb a0.F.a3 (Field.mk 0 be))) (by kernel_rfl) ?_ ?_))))
        · exact Sim.sr 1 [(2, qb false)] [] (.ret (.blockR (.thenR (.loopR (.blockR (.thenR .fn))))))
        · refine Sim.skip (.blockN (.thenN (.region0 (.rd 2 [(41, qj 4), (60, qj 4)] [] (.loopN (.pr [1, 40, 41] [1, 4] [] [(1, qp 1 0), (40, .agg (A4_Field.cells a0.F)), (41, qj 4)] [(1, some (.cells (Delta.cells a0)))] ?_))))))
          exact F77_u15_ok n a0
      · refine SimI.rd 5 [(59, qb false), (58, qb false), (57, .tup []), (56, .tup []), (55, .tup [])] [] (.thenN (.condF (by kernel_rfl) (.skip (.blockN (.thenN (.region0 (.rd 2 [(41, qj 4), (60, qj 4)] [] (.loopN (.pr [1, 40, 41] [1, 4] [] [(1, qp 1 0), (40, .agg (A4_Field.cells a0.F)), (41, qj 4)] [(1, some (.cells (Delta.cells a0)))] ?_)))))))))
        exact F77_u15_ok n a0

def F77_u9 (n : Nat) (a0 : Delta) : Option Bool :=
    (F70 n a0.F.a2).bind fun (r10 : Bool) =>
    if !(r10) then
      some false
    else
      (F99 n a0.Mask 2).bind fun (r11 : Bool) =>
      if !(r11) then
        if !(Field.eqb a0.F.a2 (Field.mk 0 ByteArray.empty)) then
          some false
        else
          F77_u12 n a0
      else
        F77_u12 n a0
theorem F77_u9_ok (n : Nat) (a0 : Delta) : SimL Try.prog D (n + 8) (n + 6) pc77_c34 [(1, qp 1 0), (40, .agg (A4_Field.cells a0.F)), (41, qj 2)] [(1, some (.cells (Delta.cells a0)))] (F77_u9 n a0) (QB 0 (QT Try.prog D (n + 8) pc77_c40 (QF false pc77_r 0 F77_e))) := by
    unfold F77_u9
    refine SimL.succ (.seq (.rg [(1, qp 1 0), (40, .agg (A4_Field.cells a0.F)), (41, qj 2)] [(1, some (.cells (Delta.cells a0)))] (.rd 1 [(42, qb true)] [] (.thenN (.seq (.condT (by kernel_rfl) (.skip (.thenN (.seq (.block (.sr 5 [(3, qj 2), (4, qp 4 0), (44, .agg [lj a0.F.a2.N, ls a0.F.a2.Text]), (43, qj 2)] [(4, some (.cells [lj a0.F.a2.N, ls a0.F.a2.Text])), (4, some (.cells [lj 0, ls be]))] (.st 1 [(45, .agg [lj a0.F.a2.N, ls a0.F.a2.Text])] [] (.cl 46 true [[]] 70 [Operand.tmp 45] none (fun r10 => qb r10) [.agg [lj a0.F.a2.N, ls a0.F.a2.Text]] (F70_ok n a0.F.a2) (fun r10 => ?_))))))))))))))
    refine SimI.rn 2 [(48, qb (!(r10))), (47, qb (!(r10)))] [] (.split 48 (!(r10)) (by kernel_rfl) ?_ ?_)
    · exact SimI.rd 11 [(59, qb true), (58, .tup []), (57, .tup []), (56, .tup []), (55, .tup []), (54, .tup []), (53, .tup []), (52, .tup []), (51, .tup []), (50, .tup []), (49, .tup [])] [] (.thenN (.condT (by kernel_rfl) (.sr 1 [(2, qb false)] [] (.ret (.blockR (.thenR (.loopR (.blockR (.thenR .fn)))))))))
    · refine SimI.rn 3 [(51, qj 2), (50, .one (li .u8 a0.Mask)), (49, qp 1 1)] [] (.cl 52 true [[], []] 99 [Operand.tmp 50, Operand.tmp 51] (some (48, false)) (fun r11 => qb r11) [.one (li .u8 a0.Mask), qj 2] (F99_ok n a0.Mask 2) (fun r11 => ?_))
      refine SimI.rn 2 [(54, qb (!(r11))), (53, qb (!(r11)))] [] (.split 54 (!(r11)) (by kernel_rfl) ?_ ?_)
      · refine SimI.rn 2 [(56, .agg [lj 0, ls be]), (55, .agg [lj a0.F.a2.N, ls a0.F.a2.Text])] [] (.step ⟨some 57, POp.prim (Prim.bin BinOp.neq 25 false false) [Operand.tmp 55, Operand.tmp 56], some (54, true), []⟩ [(57, qb (!(Field.eqb a0.F.a2 (Field.mk 0 be))))] [] (by kernel_rfl) (pOp_eff (by kernel_rfl) (by kernel_rfl) (eff_prim (by kernel_rfl) (Field_eqn a0.F.a2 (Field.mk 0 be) _ _))) (.rd 2 [(59, qb (!(Field.eqb a0.F.a2 (Field.mk 0 be)))), (58, qb (!(Field.eqb a0.F.a2 (Field.mk 0 be))))] [] (.thenN (.cond (!(Field.eqb a0.F.a2 (Field.mk 0 be))) (by kernel_rfl) ?_ ?_))))
        · exact Sim.sr 1 [(2, qb false)] [] (.ret (.blockR (.thenR (.loopR (.blockR (.thenR .fn))))))
        · refine Sim.skip (.blockN (.thenN (.region0 (.rd 2 [(41, qj 3), (60, qj 3)] [] (.loopN (.pr [1, 40, 41] [1, 4] [] [(1, qp 1 0), (40, .agg (A4_Field.cells a0.F)), (41, qj 3)] [(1, some (.cells (Delta.cells a0)))] ?_))))))
          exact F77_u12_ok n a0
      · refine SimI.rd 5 [(59, qb false), (58, qb false), (57, .tup []), (56, .tup []), (55, .tup [])] [] (.thenN (.condF (by kernel_rfl) (.skip (.blockN (.thenN (.region0 (.rd 2 [(41, qj 3), (60, qj 3)] [] (.loopN (.pr [1, 40, 41] [1, 4] [] [(1, qp 1 0), (40, .agg (A4_Field.cells a0.F)), (41, qj 3)] [(1, some (.cells (Delta.cells a0)))] ?_)))))))))
        exact F77_u12_ok n a0

def F77_u6 (n : Nat) (a0 : Delta) : Option Bool :=
    (F70 n a0.F.a1).bind fun (r7 : Bool) =>
    if !(r7) then
      some false
    else
      (F99 n a0.Mask 1).bind fun (r8 : Bool) =>
      if !(r8) then
        if !(Field.eqb a0.F.a1 (Field.mk 0 ByteArray.empty)) then
          some false
        else
          F77_u9 n a0
      else
        F77_u9 n a0
theorem F77_u6_ok (n : Nat) (a0 : Delta) : SimL Try.prog D (n + 8) (n + 7) pc77_c34 [(1, qp 1 0), (40, .agg (A4_Field.cells a0.F)), (41, qj 1)] [(1, some (.cells (Delta.cells a0)))] (F77_u6 n a0) (QB 0 (QT Try.prog D (n + 8) pc77_c40 (QF false pc77_r 0 F77_e))) := by
    unfold F77_u6
    refine SimL.succ (.seq (.rg [(1, qp 1 0), (40, .agg (A4_Field.cells a0.F)), (41, qj 1)] [(1, some (.cells (Delta.cells a0)))] (.rd 1 [(42, qb true)] [] (.thenN (.seq (.condT (by kernel_rfl) (.skip (.thenN (.seq (.block (.sr 5 [(3, qj 1), (4, qp 4 0), (44, .agg [lj a0.F.a1.N, ls a0.F.a1.Text]), (43, qj 1)] [(4, some (.cells [lj a0.F.a1.N, ls a0.F.a1.Text])), (4, some (.cells [lj 0, ls be]))] (.st 1 [(45, .agg [lj a0.F.a1.N, ls a0.F.a1.Text])] [] (.cl 46 true [[]] 70 [Operand.tmp 45] none (fun r7 => qb r7) [.agg [lj a0.F.a1.N, ls a0.F.a1.Text]] (F70_ok n a0.F.a1) (fun r7 => ?_))))))))))))))
    refine SimI.rn 2 [(48, qb (!(r7))), (47, qb (!(r7)))] [] (.split 48 (!(r7)) (by kernel_rfl) ?_ ?_)
    · exact SimI.rd 11 [(59, qb true), (58, .tup []), (57, .tup []), (56, .tup []), (55, .tup []), (54, .tup []), (53, .tup []), (52, .tup []), (51, .tup []), (50, .tup []), (49, .tup [])] [] (.thenN (.condT (by kernel_rfl) (.sr 1 [(2, qb false)] [] (.ret (.blockR (.thenR (.loopR (.blockR (.thenR .fn)))))))))
    · refine SimI.rn 3 [(51, qj 1), (50, .one (li .u8 a0.Mask)), (49, qp 1 1)] [] (.cl 52 true [[], []] 99 [Operand.tmp 50, Operand.tmp 51] (some (48, false)) (fun r8 => qb r8) [.one (li .u8 a0.Mask), qj 1] (F99_ok n a0.Mask 1) (fun r8 => ?_))
      refine SimI.rn 2 [(54, qb (!(r8))), (53, qb (!(r8)))] [] (.split 54 (!(r8)) (by kernel_rfl) ?_ ?_)
      · refine SimI.rn 2 [(56, .agg [lj 0, ls be]), (55, .agg [lj a0.F.a1.N, ls a0.F.a1.Text])] [] (.step ⟨some 57, POp.prim (Prim.bin BinOp.neq 25 false false) [Operand.tmp 55, Operand.tmp 56], some (54, true), []⟩ [(57, qb (!(Field.eqb a0.F.a1 (Field.mk 0 be))))] [] (by kernel_rfl) (pOp_eff (by kernel_rfl) (by kernel_rfl) (eff_prim (by kernel_rfl) (Field_eqn a0.F.a1 (Field.mk 0 be) _ _))) (.rd 2 [(59, qb (!(Field.eqb a0.F.a1 (Field.mk 0 be)))), (58, qb (!(Field.eqb a0.F.a1 (Field.mk 0 be))))] [] (.thenN (.cond (!(Field.eqb a0.F.a1 (Field.mk 0 be))) (by kernel_rfl) ?_ ?_))))
        · exact Sim.sr 1 [(2, qb false)] [] (.ret (.blockR (.thenR (.loopR (.blockR (.thenR .fn))))))
        · refine Sim.skip (.blockN (.thenN (.region0 (.rd 2 [(41, qj 2), (60, qj 2)] [] (.loopN (.pr [1, 40, 41] [1, 4] [] [(1, qp 1 0), (40, .agg (A4_Field.cells a0.F)), (41, qj 2)] [(1, some (.cells (Delta.cells a0)))] ?_))))))
          exact F77_u9_ok n a0
      · refine SimI.rd 5 [(59, qb false), (58, qb false), (57, .tup []), (56, .tup []), (55, .tup [])] [] (.thenN (.condF (by kernel_rfl) (.skip (.blockN (.thenN (.region0 (.rd 2 [(41, qj 2), (60, qj 2)] [] (.loopN (.pr [1, 40, 41] [1, 4] [] [(1, qp 1 0), (40, .agg (A4_Field.cells a0.F)), (41, qj 2)] [(1, some (.cells (Delta.cells a0)))] ?_)))))))))
        exact F77_u9_ok n a0

def F77_j3 (n : Nat) (a0 : Delta) : Option Bool :=
    (F70 n a0.F.a0).bind fun (r4 : Bool) =>
    if !(r4) then
      some false
    else
      (F99 n a0.Mask 0).bind fun (r5 : Bool) =>
      if !(r5) then
        if !(Field.eqb a0.F.a0 (Field.mk 0 ByteArray.empty)) then
          some false
        else
          F77_u6 n a0
      else
        F77_u6 n a0
theorem F77_j3_ok (n : Nat) (a0 : Delta) : Sim Try.prog D (n + 8) pc77_c41 [(1, qp 1 0)] [(1, some (.cells (Delta.cells a0)))] (F77_j3 n a0) (QF false pc77_r 0 F77_e) := by
    unfold F77_j3
    refine Sim.seq (.seq (.rg [(1, qp 1 0)] [(1, some (.cells (Delta.cells a0)))] (.rd 3 [(41, qj 0), (40, .agg (A4_Field.cells a0.F)), (39, qp 1 4)] [] (.thenN (.block (.loop (.succ (.seq (.rg [(1, qp 1 0), (40, .agg (A4_Field.cells a0.F)), (41, qj 0)] [(1, some (.cells (Delta.cells a0)))] (.rd 1 [(42, qb true)] [] (.thenN (.seq (.condT (by kernel_rfl) (.skip (.thenN (.seq (.block (.sr 5 [(3, qj 0), (4, qp 4 0), (44, .agg [lj a0.F.a0.N, ls a0.F.a0.Text]), (43, qj 0)] [(4, some (.cells [lj a0.F.a0.N, ls a0.F.a0.Text])), (4, some (.cells [lj 0, ls be]))] (.st 1 [(45, .agg [lj a0.F.a0.N, ls a0.F.a0.Text])] [] (.cl 46 true [[]] 70 [Operand.tmp 45] none (fun r4 => qb r4) [.agg [lj a0.F.a0.N, ls a0.F.a0.Text]] (F70_ok n a0.F.a0) (fun r4 => ?_)))))))))))))))))))))
    refine SimI.rn 2 [(48, qb (!(r4))), (47, qb (!(r4)))] [] (.split 48 (!(r4)) (by kernel_rfl) ?_ ?_)
    · exact SimI.rd 11 [(59, qb true), (58, .tup []), (57, .tup []), (56, .tup []), (55, .tup []), (54, .tup []), (53, .tup []), (52, .tup []), (51, .tup []), (50, .tup []), (49, .tup [])] [] (.thenN (.condT (by kernel_rfl) (.sr 1 [(2, qb false)] [] (.ret (.blockR (.thenR (.loopR (.blockR (.thenR .fn)))))))))
    · refine SimI.rn 3 [(51, qj 0), (50, .one (li .u8 a0.Mask)), (49, qp 1 1)] [] (.cl 52 true [[], []] 99 [Operand.tmp 50, Operand.tmp 51] (some (48, false)) (fun r5 => qb r5) [.one (li .u8 a0.Mask), qj 0] (F99_ok n a0.Mask 0) (fun r5 => ?_))
      refine SimI.rn 2 [(54, qb (!(r5))), (53, qb (!(r5)))] [] (.split 54 (!(r5)) (by kernel_rfl) ?_ ?_)
      · refine SimI.rn 2 [(56, .agg [lj 0, ls be]), (55, .agg [lj a0.F.a0.N, ls a0.F.a0.Text])] [] (.step ⟨some 57, POp.prim (Prim.bin BinOp.neq 25 false false) [Operand.tmp 55, Operand.tmp 56], some (54, true), []⟩ [(57, qb (!(Field.eqb a0.F.a0 (Field.mk 0 be))))] [] (by kernel_rfl) (pOp_eff (by kernel_rfl) (by kernel_rfl) (eff_prim (by kernel_rfl) (Field_eqn a0.F.a0 (Field.mk 0 be) _ _))) (.rd 2 [(59, qb (!(Field.eqb a0.F.a0 (Field.mk 0 be)))), (58, qb (!(Field.eqb a0.F.a0 (Field.mk 0 be))))] [] (.thenN (.cond (!(Field.eqb a0.F.a0 (Field.mk 0 be))) (by kernel_rfl) ?_ ?_))))
        · exact Sim.sr 1 [(2, qb false)] [] (.ret (.blockR (.thenR (.loopR (.blockR (.thenR .fn))))))
        · refine Sim.skip (.blockN (.thenN (.region0 (.rd 2 [(41, qj 1), (60, qj 1)] [] (.loopN (.pr [1, 40, 41] [1, 4] [] [(1, qp 1 0), (40, .agg (A4_Field.cells a0.F)), (41, qj 1)] [(1, some (.cells (Delta.cells a0)))] ?_))))))
          exact F77_u6_ok n a0
      · refine SimI.rd 5 [(59, qb false), (58, qb false), (57, .tup []), (56, .tup []), (55, .tup [])] [] (.thenN (.condF (by kernel_rfl) (.skip (.blockN (.thenN (.region0 (.rd 2 [(41, qj 1), (60, qj 1)] [] (.loopN (.pr [1, 40, 41] [1, 4] [] [(1, qp 1 0), (40, .agg (A4_Field.cells a0.F)), (41, qj 1)] [(1, some (.cells (Delta.cells a0)))] ?_)))))))))
        exact F77_u6_ok n a0

def F77 (n : Nat) (a0 : Delta) : Option Bool :=
  if decide (a0.ID < 0) then
    some false
  else
    if decide ((1000000 : Int) < a0.ID) then
      some false
    else
      if a0.Mask == 0 then
        some false
      else
        if decide ((31 : Int) < a0.Mask) then
          some false
        else
          if (bitsI .and .u8 a0.Mask 1) == 0 then
            if !(Point.eqb a0.At (Point.mk 0 0)) then
              some false
            else
              (F67 n a0.At).bind fun (r1 : Bool) =>
              if !(r1) then
                some false
              else
                F77_j3 n a0
          else
            (F67 n a0.At).bind fun (r2 : Bool) =>
            if !(r2) then
              some false
            else
              F77_j3 n a0
theorem F77_ok (n : Nat) (a0 : Delta) : ∀ r, F77 n a0 = some r → D 77 [.agg (Delta.cells a0)] [] = some (F77_e r) := by
  refine fn_to (D := D) (n := n + 8) (nt := 61) (rs := pc77_r) (c := pc77_c44) (L := [(0, .agg (Delta.cells a0))]) (M := []) (k := 0) rfl rfl rfl rfl rfl rfl rfl ?_
  unfold F77
  refine Sim.sr 2 [(2, qb false), (1, qp 1 0)] [(1, some (.cells (Delta.cells a0)))] (.seq (.st 4 [(8, qb (decide (a0.ID < 0))), (7, qb (decide (a0.ID < 0))), (6, qj a0.ID), (5, qp 1 0)] [] (.split 8 (decide (a0.ID < 0)) (by kernel_rfl) ?_ ?_)))
  · exact SimI.rd 14 [(22, qb true), (21, .tup []), (20, .tup []), (19, .tup []), (18, qb true), (17, qb true), (16, .tup []), (15, .tup []), (14, .tup []), (13, qb true), (12, qb true), (11, .tup []), (10, .tup []), (9, .tup [])] [] (.thenN (.condT (by kernel_rfl) (.sr 1 [(2, qb false)] [] (.ret (.thenR .fn)))))
  · refine SimI.rn 5 [(13, qb (decide ((1000000 : Int) < a0.ID))), (12, qb (decide ((1000000 : Int) < a0.ID))), (11, qb (decide ((1000000 : Int) < a0.ID))), (10, qj a0.ID), (9, qp 1 0)] [] (.split 13 (decide ((1000000 : Int) < a0.ID)) (by kernel_rfl) ?_ ?_)
    · exact SimI.rd 9 [(22, qb true), (21, .tup []), (20, .tup []), (19, .tup []), (18, qb true), (17, qb true), (16, .tup []), (15, .tup []), (14, .tup [])] [] (.thenN (.condT (by kernel_rfl) (.sr 1 [(2, qb false)] [] (.ret (.thenR .fn)))))
    · refine SimI.rn 5 [(18, qb (a0.Mask == 0)), (17, qb (a0.Mask == 0)), (16, qb (a0.Mask == 0)), (15, .one (li .u8 a0.Mask)), (14, qp 1 1)] [] (.split 18 (a0.Mask == 0) (by kernel_rfl) ?_ ?_)
      · exact SimI.rd 4 [(22, qb true), (21, .tup []), (20, .tup []), (19, .tup [])] [] (.thenN (.condT (by kernel_rfl) (.sr 1 [(2, qb false)] [] (.ret (.thenR .fn)))))
      · refine SimI.rd 4 [(22, qb (decide ((31 : Int) < a0.Mask))), (21, qb (decide ((31 : Int) < a0.Mask))), (20, .one (li .u8 a0.Mask)), (19, qp 1 1)] [] (.thenN (.cond (decide ((31 : Int) < a0.Mask)) (by kernel_rfl) ?_ ?_))
        · exact Sim.sr 1 [(2, qb false)] [] (.ret (.thenR .fn))
        · refine Sim.skip (.thenN (.seq (.st 5 [(27, qb ((bitsI .and .u8 a0.Mask 1) == 0)), (26, qb ((bitsI .and .u8 a0.Mask 1) == 0)), (25, .one (li .u8 (bitsI .and .u8 a0.Mask 1))), (24, .one (li .u8 a0.Mask)), (23, qp 1 1)] [] (.split 27 ((bitsI .and .u8 a0.Mask 1) == 0) (by kernel_rfl) ?_ ?_))))
          · refine SimI.rn 3 [(30, .agg [lj 0, lj 0]), (29, .agg [lj a0.At.X, lj a0.At.Y]), (28, qp 1 2)] [] (.step ⟨some 31, POp.prim (Prim.bin BinOp.neq 23 false false) [Operand.tmp 29, Operand.tmp 30], some (27, true), []⟩ [(31, qb (!(Point.eqb a0.At (Point.mk 0 0))))] [] (by kernel_rfl) (pOp_eff (by kernel_rfl) (by kernel_rfl) (eff_prim (by kernel_rfl) (Point_eqn a0.At (Point.mk 0 0) _ _))) (.rn 2 [(33, qb (!(Point.eqb a0.At (Point.mk 0 0)))), (32, qb (!(Point.eqb a0.At (Point.mk 0 0))))] [] (.split 33 (!(Point.eqb a0.At (Point.mk 0 0))) (by kernel_rfl) ?_ ?_)))
            · exact SimI.rd 5 [(38, qb true), (37, .tup []), (36, .tup []), (35, .tup []), (34, .tup [])] [] (.thenN (.condT (by kernel_rfl) (.sr 1 [(2, qb false)] [] (.ret (.thenR .fn)))))
            · refine SimI.rn 2 [(35, .agg [lj a0.At.X, lj a0.At.Y]), (34, qp 1 2)] [] (.cl 36 true [[]] 67 [Operand.tmp 35] (some (33, false)) (fun r1 => qb r1) [.agg [lj a0.At.X, lj a0.At.Y]] (F67_ok n a0.At) (fun r1 => ?_))
              refine SimI.rd 2 [(38, qb (!(r1))), (37, qb (!(r1)))] [] (.thenN (.cond (!(r1)) (by kernel_rfl) ?_ ?_))
              · exact Sim.sr 1 [(2, qb false)] [] (.ret (.thenR .fn))
              · refine Sim.skip (.thenN (.pr [1] [1] [] [(1, qp 1 0)] [(1, some (.cells (Delta.cells a0)))] ?_))
                exact F77_j3_ok n a0
          · refine SimI.rn 8 [(35, .agg [lj a0.At.X, lj a0.At.Y]), (34, qp 1 2), (33, qb false), (32, qb false), (31, .tup []), (30, .tup []), (29, .tup []), (28, .tup [])] [] (.cl 36 true [[]] 67 [Operand.tmp 35] (some (33, false)) (fun r2 => qb r2) [.agg [lj a0.At.X, lj a0.At.Y]] (F67_ok n a0.At) (fun r2 => ?_))
            refine SimI.rd 2 [(38, qb (!(r2))), (37, qb (!(r2)))] [] (.thenN (.cond (!(r2)) (by kernel_rfl) ?_ ?_))
            · exact Sim.sr 1 [(2, qb false)] [] (.ret (.thenR .fn))
            · refine Sim.skip (.thenN (.pr [1] [1] [] [(1, qp 1 0)] [(1, some (.cells (Delta.cells a0)))] ?_))
              exact F77_j3_ok n a0


-- 39: vedette/event.Is
def F39_e : Bool → PV × List Ob := fun r => (.one (lb r), [])
def F39 (n : Nat) (a0 : Event) : Option Bool :=
  if a0.Kind == 1 then
    (F24 n a0.Thing).bind fun (r1 : Bool) =>
    if r1 then
      if a0.ID == a0.Thing.ID then
        some (Delta.eqb a0.Delta (Delta.mk 0 0 (Point.mk 0 0) (A4.mk (Field.mk 0 ByteArray.empty) (Field.mk 0 ByteArray.empty) (Field.mk 0 ByteArray.empty) (Field.mk 0 ByteArray.empty))))
      else
        some false
    else
      some false
  else
    if a0.Kind == 2 then
      (F77 n a0.Delta).bind fun (r2 : Bool) =>
      if r2 then
        if a0.ID == a0.Delta.ID then
          some (Thing.eqb a0.Thing (Thing.mk 0 (Point.mk 0 0) (A4.mk (Field.mk 0 ByteArray.empty) (Field.mk 0 ByteArray.empty) (Field.mk 0 ByteArray.empty) (Field.mk 0 ByteArray.empty))))
        else
          some false
      else
        some false
    else
      if a0.Kind == 3 then
        if decide ((0 : Int) ≤ a0.ID) then
          if decide (a0.ID ≤ 1000000) then
            if Thing.eqb a0.Thing (Thing.mk 0 (Point.mk 0 0) (A4.mk (Field.mk 0 ByteArray.empty) (Field.mk 0 ByteArray.empty) (Field.mk 0 ByteArray.empty) (Field.mk 0 ByteArray.empty))) then
              some (Delta.eqb a0.Delta (Delta.mk 0 0 (Point.mk 0 0) (A4.mk (Field.mk 0 ByteArray.empty) (Field.mk 0 ByteArray.empty) (Field.mk 0 ByteArray.empty) (Field.mk 0 ByteArray.empty))))
            else
              some false
          else
            some false
        else
          some false
      else
        some false
theorem F39_ok (n : Nat) (a0 : Event) : ∀ r, F39 n a0 = some r → D 39 [.agg (Event.cells a0)] [] = some (F39_e r) := by
  refine fn_to (D := D) (n := n + 8) (nt := 63) (rs := pc39_r) (c := pc39_c30) (L := [(0, .agg (Event.cells a0))]) (M := []) (k := 0) rfl rfl rfl rfl rfl rfl rfl ?_
  unfold F39
  refine Sim.sr 2 [(2, qb false), (1, qp 1 0)] [(1, some (.cells (Event.cells a0)))] (.st 3 [(7, .agg [lj 0, lj 0, lj 0, lj 0, ls be, lj 0, ls be, lj 0, ls be, lj 0, ls be]), (6, .agg (Thing.cells a0.Thing)), (5, qp 1 2)] [] (.step ⟨some 8, POp.prim (Prim.bin BinOp.eql 28 false false) [Operand.tmp 6, Operand.tmp 7], none, [(6, Hint.imm), (7, Hint.imm)]⟩ [(8, qb (Thing.eqb a0.Thing (Thing.mk 0 (Point.mk 0 0) (A4.mk (Field.mk 0 be) (Field.mk 0 be) (Field.mk 0 be) (Field.mk 0 be)))))] [] (by kernel_rfl) (pOp_eff (by kernel_rfl) (by kernel_rfl) (eff_prim (by kernel_rfl) (Thing_eql a0.Thing (Thing.mk 0 (Point.mk 0 0) (A4.mk (Field.mk 0 be) (Field.mk 0 be) (Field.mk 0 be) (Field.mk 0 be))) _ _))) (.rn 3 [(11, .agg [lj 0, li .u8 0, lj 0, lj 0, lj 0, ls be, lj 0, ls be, lj 0, ls be, lj 0, ls be]), (10, .agg (Delta.cells a0.Delta)), (9, qp 1 13)] [] (.step ⟨some 12, POp.prim (Prim.bin BinOp.eql 35 false false) [Operand.tmp 10, Operand.tmp 11], none, [(10, Hint.imm), (11, Hint.imm)]⟩ [(12, qb (Delta.eqb a0.Delta (Delta.mk 0 0 (Point.mk 0 0) (A4.mk (Field.mk 0 be) (Field.mk 0 be) (Field.mk 0 be) (Field.mk 0 be)))))] [] (by kernel_rfl) (pOp_eff (by kernel_rfl) (by kernel_rfl) (eff_prim (by kernel_rfl) (Delta_eql a0.Delta (Delta.mk 0 0 (Point.mk 0 0) (A4.mk (Field.mk 0 be) (Field.mk 0 be) (Field.mk 0 be) (Field.mk 0 be))) _ _))) (.rd 2 [(4, qb (Delta.eqb a0.Delta (Delta.mk 0 0 (Point.mk 0 0) (A4.mk (Field.mk 0 be) (Field.mk 0 be) (Field.mk 0 be) (Field.mk 0 be))))), (3, qb (Thing.eqb a0.Thing (Thing.mk 0 (Point.mk 0 0) (A4.mk (Field.mk 0 be) (Field.mk 0 be) (Field.mk 0 be) (Field.mk 0 be)))))] [] (.thenN (.seq (.sr 2 [(14, qj a0.Kind), (13, qp 1 0)] [] (.block (.sr 2 [(15, qb (a0.Kind == 1)), (16, qb (a0.Kind == 1))] [] (.cond (a0.Kind == 1) (by kernel_rfl) ?_ ?_)))))))))))
  · refine Sim.st 2 [(18, .agg (Thing.cells a0.Thing)), (17, qp 1 2)] [] (.cl 19 true [[]] 24 [Operand.tmp 18] none (fun r1 => qb r1) [.agg (Thing.cells a0.Thing)] (F24_ok n a0.Thing) (fun r1 => ?_))
    refine SimI.rn 1 [(20, qb r1)] [] (.split 20 r1 (by kernel_rfl) ?_ ?_)
    · refine SimI.rn 8 [(28, qb (a0.ID == a0.Thing.ID)), (27, qb (a0.ID == a0.Thing.ID)), (26, qb (a0.ID == a0.Thing.ID)), (25, qj a0.Thing.ID), (24, qp 1 2), (23, qp 1 2), (22, qj a0.ID), (21, qp 1 1)] [] (.split 28 (a0.ID == a0.Thing.ID) (by kernel_rfl) ?_ ?_)
      · exact SimI.rd 3 [(2, qb (Delta.eqb a0.Delta (Delta.mk 0 0 (Point.mk 0 0) (A4.mk (Field.mk 0 be) (Field.mk 0 be) (Field.mk 0 be) (Field.mk 0 be))))), (30, qb (Delta.eqb a0.Delta (Delta.mk 0 0 (Point.mk 0 0) (A4.mk (Field.mk 0 be) (Field.mk 0 be) (Field.mk 0 be) (Field.mk 0 be))))), (29, qb (Delta.eqb a0.Delta (Delta.mk 0 0 (Point.mk 0 0) (A4.mk (Field.mk 0 be) (Field.mk 0 be) (Field.mk 0 be) (Field.mk 0 be)))))] [] (.thenN (.ret (.blockR (.thenR .fn))))
      · exact SimI.rd 3 [(2, qb false), (30, qb false), (29, .tup [])] [] (.thenN (.ret (.blockR (.thenR .fn))))
    · exact SimI.rd 11 [(2, qb false), (30, qb false), (29, .tup []), (28, qb false), (27, qb false), (26, .tup []), (25, .tup []), (24, .tup []), (23, .tup []), (22, .tup []), (21, .tup [])] [] (.thenN (.ret (.blockR (.thenR .fn))))
  · refine Sim.sr 2 [(31, qb (a0.Kind == 2)), (32, qb (a0.Kind == 2))] [] (.cond (a0.Kind == 2) (by kernel_rfl) ?_ ?_)
    · refine Sim.st 2 [(34, .agg (Delta.cells a0.Delta)), (33, qp 1 13)] [] (.cl 35 true [[]] 77 [Operand.tmp 34] none (fun r2 => qb r2) [.agg (Delta.cells a0.Delta)] (F77_ok n a0.Delta) (fun r2 => ?_))
      refine SimI.rn 1 [(36, qb r2)] [] (.split 36 r2 (by kernel_rfl) ?_ ?_)
      · refine SimI.rn 8 [(44, qb (a0.ID == a0.Delta.ID)), (43, qb (a0.ID == a0.Delta.ID)), (42, qb (a0.ID == a0.Delta.ID)), (41, qj a0.Delta.ID), (40, qp 1 13), (39, qp 1 13), (38, qj a0.ID), (37, qp 1 1)] [] (.split 44 (a0.ID == a0.Delta.ID) (by kernel_rfl) ?_ ?_)
        · exact SimI.rd 3 [(2, qb (Thing.eqb a0.Thing (Thing.mk 0 (Point.mk 0 0) (A4.mk (Field.mk 0 be) (Field.mk 0 be) (Field.mk 0 be) (Field.mk 0 be))))), (46, qb (Thing.eqb a0.Thing (Thing.mk 0 (Point.mk 0 0) (A4.mk (Field.mk 0 be) (Field.mk 0 be) (Field.mk 0 be) (Field.mk 0 be))))), (45, qb (Thing.eqb a0.Thing (Thing.mk 0 (Point.mk 0 0) (A4.mk (Field.mk 0 be) (Field.mk 0 be) (Field.mk 0 be) (Field.mk 0 be)))))] [] (.thenN (.ret (.blockR (.thenR .fn))))
        · exact SimI.rd 3 [(2, qb false), (46, qb false), (45, .tup [])] [] (.thenN (.ret (.blockR (.thenR .fn))))
      · exact SimI.rd 11 [(2, qb false), (46, qb false), (45, .tup []), (44, qb false), (43, qb false), (42, .tup []), (41, .tup []), (40, .tup []), (39, .tup []), (38, .tup []), (37, .tup [])] [] (.thenN (.ret (.blockR (.thenR .fn))))
    · refine Sim.sr 2 [(47, qb (a0.Kind == 3)), (48, qb (a0.Kind == 3))] [] (.cond (a0.Kind == 3) (by kernel_rfl) ?_ ?_)
      · refine Sim.st 4 [(52, qb (decide ((0 : Int) ≤ a0.ID))), (51, qb (decide ((0 : Int) ≤ a0.ID))), (50, qj a0.ID), (49, qp 1 1)] [] (.split 52 (decide ((0 : Int) ≤ a0.ID)) (by kernel_rfl) ?_ ?_)
        · refine SimI.rn 5 [(57, qb (decide (a0.ID ≤ 1000000))), (56, qb (decide (a0.ID ≤ 1000000))), (55, qb (decide (a0.ID ≤ 1000000))), (54, qj a0.ID), (53, qp 1 1)] [] (.split 57 (decide (a0.ID ≤ 1000000)) (by kernel_rfl) ?_ ?_)
          · refine SimI.rn 3 [(60, qb (Thing.eqb a0.Thing (Thing.mk 0 (Point.mk 0 0) (A4.mk (Field.mk 0 be) (Field.mk 0 be) (Field.mk 0 be) (Field.mk 0 be))))), (59, qb (Thing.eqb a0.Thing (Thing.mk 0 (Point.mk 0 0) (A4.mk (Field.mk 0 be) (Field.mk 0 be) (Field.mk 0 be) (Field.mk 0 be))))), (58, qb (Thing.eqb a0.Thing (Thing.mk 0 (Point.mk 0 0) (A4.mk (Field.mk 0 be) (Field.mk 0 be) (Field.mk 0 be) (Field.mk 0 be)))))] [] (.split 60 (Thing.eqb a0.Thing (Thing.mk 0 (Point.mk 0 0) (A4.mk (Field.mk 0 be) (Field.mk 0 be) (Field.mk 0 be) (Field.mk 0 be)))) (by kernel_rfl) ?_ ?_)
            · exact SimI.rd 3 [(2, qb (Delta.eqb a0.Delta (Delta.mk 0 0 (Point.mk 0 0) (A4.mk (Field.mk 0 be) (Field.mk 0 be) (Field.mk 0 be) (Field.mk 0 be))))), (62, qb (Delta.eqb a0.Delta (Delta.mk 0 0 (Point.mk 0 0) (A4.mk (Field.mk 0 be) (Field.mk 0 be) (Field.mk 0 be) (Field.mk 0 be))))), (61, qb (Delta.eqb a0.Delta (Delta.mk 0 0 (Point.mk 0 0) (A4.mk (Field.mk 0 be) (Field.mk 0 be) (Field.mk 0 be) (Field.mk 0 be)))))] [] (.thenN (.ret (.blockR (.thenR .fn))))
            · exact SimI.rd 3 [(2, qb false), (62, qb false), (61, .tup [])] [] (.thenN (.ret (.blockR (.thenR .fn))))
          · exact SimI.rd 6 [(2, qb false), (62, qb false), (61, .tup []), (60, qb false), (59, qb false), (58, .tup [])] [] (.thenN (.ret (.blockR (.thenR .fn))))
        · exact SimI.rd 11 [(2, qb false), (62, qb false), (61, .tup []), (60, qb false), (59, qb false), (58, .tup []), (57, qb false), (56, qb false), (55, .tup []), (54, .tup []), (53, .tup [])] [] (.thenN (.ret (.blockR (.thenR .fn))))
      · exact Sim.skip (.blockN (.thenN (.sr 1 [(2, qb false)] [] (.ret .fn))))


-- 111: cmp.isNaN[int]
def F111_e : Bool → PV × List Ob := fun r => (.one (lb r), [])
def F111 (n : Nat) (a0 : Int) : Option Bool :=
  some (a0 != a0)
theorem F111_ok (n : Nat) (a0 : Int) : ∀ r, F111 n a0 = some r → D 111 [.one (li .i64 a0)] [] = some (F111_e r) := by
  refine fn_to (D := D) (n := n + 8) (nt := 6) (rs := pc111_r) (c := pc111_c5) (L := [(0, qj a0)]) (M := []) (k := 0) rfl rfl rfl rfl rfl rfl rfl ?_
  unfold F111
  exact Sim.sr 1 [(2, qb false)] [] (.sr 4 [(2, qb (a0 != a0)), (5, qb (a0 != a0)), (4, qj a0), (3, qj a0)] [] (.ret .fn))


-- 86: cmp.Compare[int]
def F86_e : Int → PV × List Ob := fun r => (.one (li .i64 r), [])
def F86 (n : Nat) (a0 : Int) (a1 : Int) : Option Int :=
  (F111 n a0).bind fun (r1 : Bool) =>
  (F111 n a1).bind fun (r2 : Bool) =>
  if r1 then
    if r2 then
      some 0
    else
      some (-1)
  else
    if r2 then
      some 1
    else
      if decide (a0 < a1) then
        some (-1)
      else
        if decide (a1 < a0) then
          some 1
        else
          some 0
theorem F86_ok (n : Nat) (a0 : Int) (a1 : Int) : ∀ r, F86 n a0 a1 = some r → D 86 [.one (li .i64 a0), .one (li .i64 a1)] [] = some (F86_e r) := by
  refine fn_to (D := D) (n := n + 8) (nt := 20) (rs := pc86_r) (c := pc86_c49) (L := [(0, qj a0), (1, qj a1)]) (M := []) (k := 0) rfl rfl rfl rfl rfl rfl rfl ?_
  unfold F86
  refine Sim.sr 1 [(4, qj 0)] [] (.st 1 [(7, qj a0)] [] (.cl 8 true [[]] 111 [Operand.tmp 7] none (fun r1 => qb r1) [qj a0] (F111_ok n a0) (fun r1 => ?_)))
  refine SimI.rd 1 [(5, qb r1)] [] (.thenN (.st 1 [(9, qj a1)] [] (.cl 10 true [[]] 111 [Operand.tmp 9] none (fun r2 => qb r2) [qj a1] (F111_ok n a1) (fun r2 => ?_))))
  refine SimI.rd 1 [(6, qb r2)] [] (.thenN (.seq (.sr 1 [(11, qb r1)] [] (.cond r1 (by kernel_rfl) ?_ ?_))))
  · refine Sim.seq (.sr 1 [(12, qb r2)] [] (.cond r2 (by kernel_rfl) ?_ ?_))
    · exact Sim.sr 1 [(4, qj 0)] [] (.ret (.thenR (.thenR .fn)))
    · exact Sim.skip (.thenN (.sr 1 [(4, qj (-1))] [] (.ret (.thenR .fn))))
  · refine Sim.skip (.thenN (.seq (.sr 1 [(13, qb r2)] [] (.cond r2 (by kernel_rfl) ?_ ?_))))
    · exact Sim.sr 1 [(4, qj 1)] [] (.ret (.thenR .fn))
    · refine Sim.skip (.thenN (.seq (.sr 3 [(16, qb (decide (a0 < a1))), (15, qj a1), (14, qj a0)] [] (.cond (decide (a0 < a1)) (by kernel_rfl) ?_ ?_))))
      · exact Sim.sr 1 [(4, qj (-1))] [] (.ret (.thenR .fn))
      · refine Sim.skip (.thenN (.seq (.sr 3 [(19, qb (decide (a1 < a0))), (18, qj a1), (17, qj a0)] [] (.cond (decide (a1 < a0)) (by kernel_rfl) ?_ ?_))))
        · exact Sim.sr 1 [(4, qj 1)] [] (.ret (.thenR .fn))
        · exact Sim.skip (.thenN (.sr 1 [(4, qj 0)] [] (.ret .fn)))


-- 85: vedette/event.Apply$1
def F85_e : Int → PV × List Ob := fun r => (.one (li .i64 r), [])
def F85 (n : Nat) (a0 : Thing) (a1 : Int) : Option Int :=
  (F86 n a0.ID a1).bind fun (r1 : Int) =>
  some r1
theorem F85_ok (n : Nat) (a0 : Thing) (a1 : Int) : ∀ r, F85 n a0 a1 = some r → D 85 [.agg (Thing.cells a0), .one (li .i64 a1)] [] = some (F85_e r) := by
  refine fn_to (D := D) (n := n + 8) (nt := 9) (rs := pc85_r) (c := pc85_c5) (L := [(0, .agg (Thing.cells a0)), (1, qj a1)]) (M := []) (k := 0) rfl rfl rfl rfl rfl rfl rfl ?_
  unfold F85
  refine Sim.sr 2 [(4, qj 0), (2, qp 2 0)] [(2, some (.cells (Thing.cells a0)))] (.st 3 [(7, qj a1), (6, qj a0.ID), (5, qp 2 0)] [] (.cl 8 true [[], []] 86 [Operand.tmp 6, Operand.tmp 7] none (fun r1 => qj r1) [qj a0.ID, qj a1] (F86_ok n a0.ID a1) (fun r1 => ?_)))
  exact SimI.rd 1 [(4, qj r1)] [] (.thenN (.ret .fn))


-- 84: slices.BinarySearchFunc[[]vedette/api.Thing,vedette/api.Thing,int]
def F84s0_e (a0 : (List Thing)) (a1 : Int) : (Int × Bool) → PV × List Ob := fun r => (.tup [.one (li .i64 r.1), .one (lb r.2)], [])
def F84s0_l7 (n : Nat) (a0 : (List Thing)) (a1 : Int) : Nat → Int → Int → Option (Int × Bool)
  | 0, _, _ => none
  | m + 1, i5, i6 =>
    if decide (i5 < i6) then
      (ix a0 (IntKind.wrap .i64 (shrI .u64 (IntKind.wrap .u64 (IntKind.wrap .i64 (i5 + i6))) 1))).bind fun (x8 : Thing) =>
      (F85 n x8 a1).bind fun (r9 : Int) =>
      if decide (r9 < 0) then
        (F84s0_l7 n a0 a1 m) (IntKind.wrap .i64 (IntKind.wrap .i64 (shrI .u64 (IntKind.wrap .u64 (IntKind.wrap .i64 (i5 + i6))) 1) + 1)) i6
      else
        (F84s0_l7 n a0 a1 m) i5 (IntKind.wrap .i64 (shrI .u64 (IntKind.wrap .u64 (IntKind.wrap .i64 (i5 + i6))) 1))
    else
      if decide (i5 < ((a0).length : Int)) then
        (ix a0 i5).bind fun (x10 : Thing) =>
        (F85 n x10 a1).bind fun (r11 : Int) =>
        some (i5, (r11 == 0))
      else
        some (i5, false)
theorem F84s0_l7_ok (n : Nat) (a0 : (List Thing)) (a1 : Int) : ∀ (m : Nat) (i5 : Int) (i6 : Int), SimL Try.prog D (n + 8) m pc84_c17 [(0, .one (vw Thing.cod a0)), (1, qj a1), (2, .one (.val (.func (.func 85) #[] #[]))), (8, qj ((a0).length : Int)), (9, qj i5), (10, qj i6)] [] (F84s0_l7 n a0 a1 m i5 i6) (QB 0 (QT Try.prog D (n + 8) pc84_c22 (QF false pc84_r 0 (F84s0_e a0 a1)))) := by
  intro m_l7
  induction m_l7 with
  | zero => intro i5 i6; exact SimL.zero'  rfl
  | succ m_l7 ih_l7 =>
    intro i5 i6
    refine SimL.succ ?_
    unfold F84s0_l7
    refine Sim.seq (.seq (.rg [(0, .one (vw Thing.cod a0)), (1, qj a1), (2, .one (.val (.func (.func 85) #[] #[]))), (8, qj ((a0).length : Int)), (9, qj i5), (10, qj i6)] [] (.rd 3 [(17, qb (decide (i5 < i6))), (16, qj i6), (15, qj i5)] [] (.thenN (.cond (decide (i5 < i6)) (by kernel_rfl) ?_ ?_)))))
    · refine Sim.skip (.thenN (.block (.sr 7 [(11, qj (IntKind.wrap .i64 (shrI .u64 (IntKind.wrap .u64 (IntKind.wrap .i64 (i5 + i6))) 1))), (23, qj (IntKind.wrap .i64 (shrI .u64 (IntKind.wrap .u64 (IntKind.wrap .i64 (i5 + i6))) 1))), (22, .one (li .u64 (shrI .u64 (IntKind.wrap .u64 (IntKind.wrap .i64 (i5 + i6))) 1))), (21, .one (li .u64 (IntKind.wrap .u64 (IntKind.wrap .i64 (i5 + i6))))), (20, qj (IntKind.wrap .i64 (i5 + i6))), (19, qj i6), (18, qj i5)] [] (.st 3 [(26, qj (IntKind.wrap .i64 (shrI .u64 (IntKind.wrap .u64 (IntKind.wrap .i64 (i5 + i6))) 1))), (25, .one (vw Thing.cod a0)), (24, .one (.val (.func (.func 85) #[] #[])))] [] (.bind (og := ix a0 (IntKind.wrap .i64 (shrI .u64 (IntKind.wrap .u64 (IntKind.wrap .i64 (i5 + i6))) 1))) ⟨some 27, POp.iaddrS 11 (Operand.tmp 25) (Operand.tmp 26), none, []⟩ (fun x8 => [(27, .one (.eptr (Thing.cod.enc x8) 0))]) (fun x8 => []) (by kernel_rfl) (fun x8 hr => pOp_eff (by kernel_rfl) (by kernel_rfl) (eff_idx (c := Thing.cod) (l := a0) (k := .i64) (n := IntKind.wrap .i64 (shrI .u64 (IntKind.wrap .u64 (IntKind.wrap .i64 (i5 + i6))) 1)) (by kernel_rfl) (by kernel_rfl) (by kernel_rfl) hr)) (fun x8 => ?_))))))
      refine SimI.rn 2 [(29, qj a1), (28, .agg (Thing.cells x8))] [] (.bind (og := F85 n x8 a1) ⟨some 30, POp.callv true [[], []] (Operand.tmp 24) [Operand.tmp 28, Operand.tmp 29], none, []⟩ (fun r9 => [(30, qj r9)]) (fun r9 => []) (by kernel_rfl) (fun r9 hr => pOp_eff (by kernel_rfl) (by kernel_rfl) (eff_callvv (by kernel_rfl) (ARGS := [.agg (Thing.cells x8), qj a1]) (by kernel_rfl) (args_clean (by kernel_rfl) (args_clean (by kernel_rfl) args_nil)) (F85_ok n x8 a1 r9 hr) (by kernel_rfl))) (fun r9 => ?_))
      refine SimI.rd 1 [(31, qb (decide (r9 < 0)))] [] (.thenN (.cond (decide (r9 < 0)) (by kernel_rfl) ?_ ?_))
      · refine Sim.region0 (.rd 3 [(9, qj (IntKind.wrap .i64 (IntKind.wrap .i64 (shrI .u64 (IntKind.wrap .u64 (IntKind.wrap .i64 (i5 + i6))) 1) + 1))), (33, qj (IntKind.wrap .i64 (IntKind.wrap .i64 (shrI .u64 (IntKind.wrap .u64 (IntKind.wrap .i64 (i5 + i6))) 1) + 1))), (32, qj (IntKind.wrap .i64 (shrI .u64 (IntKind.wrap .u64 (IntKind.wrap .i64 (i5 + i6))) 1)))] [] (.blockN (.loopN (.pr [0, 1, 2, 8, 9, 10] [] [] [(0, .one (vw Thing.cod a0)), (1, qj a1), (2, .one (.val (.func (.func 85) #[] #[]))), (8, qj ((a0).length : Int)), (9, qj (IntKind.wrap .i64 (IntKind.wrap .i64 (shrI .u64 (IntKind.wrap .u64 (IntKind.wrap .i64 (i5 + i6))) 1) + 1))), (10, qj i6)] [] ?_))))
        exact ih_l7 (IntKind.wrap .i64 (IntKind.wrap .i64 (shrI .u64 (IntKind.wrap .u64 (IntKind.wrap .i64 (i5 + i6))) 1) + 1)) i6
      · refine Sim.region0 (.rd 2 [(10, qj (IntKind.wrap .i64 (shrI .u64 (IntKind.wrap .u64 (IntKind.wrap .i64 (i5 + i6))) 1))), (34, qj (IntKind.wrap .i64 (shrI .u64 (IntKind.wrap .u64 (IntKind.wrap .i64 (i5 + i6))) 1)))] [] (.blockN (.loopN (.pr [0, 1, 2, 8, 9, 10] [] [] [(0, .one (vw Thing.cod a0)), (1, qj a1), (2, .one (.val (.func (.func 85) #[] #[]))), (8, qj ((a0).length : Int)), (9, qj i5), (10, qj (IntKind.wrap .i64 (shrI .u64 (IntKind.wrap .u64 (IntKind.wrap .i64 (i5 + i6))) 1)))] [] ?_))))
        exact ih_l7 i5 (IntKind.wrap .i64 (shrI .u64 (IntKind.wrap .u64 (IntKind.wrap .i64 (i5 + i6))) 1))
    · refine Sim.exit (.thenX (.loopX (.blockX (.thenN (.st 5 [(39, qb (decide (i5 < ((a0).length : Int)))), (38, qb (decide (i5 < ((a0).length : Int)))), (37, qj ((a0).length : Int)), (36, qj i5), (35, qj i5)] [] (.split 39 (decide (i5 < ((a0).length : Int))) (by kernel_rfl) ?_ ?_))))))
      · refine SimI.rn 3 [(42, qj i5), (41, .one (vw Thing.cod a0)), (40, .one (.val (.func (.func 85) #[] #[])))] [] (.bind (og := ix a0 i5) ⟨some 43, POp.iaddrS 11 (Operand.tmp 41) (Operand.tmp 42), some (39, true), []⟩ (fun x10 => [(43, .one (.eptr (Thing.cod.enc x10) 0))]) (fun x10 => []) (by kernel_rfl) (fun x10 hr => pOp_eff (by kernel_rfl) (by kernel_rfl) (eff_idx (c := Thing.cod) (l := a0) (k := .i64) (n := i5) (by kernel_rfl) (by kernel_rfl) (by kernel_rfl) hr)) (fun x10 => ?_))
        refine SimI.rn 2 [(45, qj a1), (44, .agg (Thing.cells x10))] [] (.bind (og := F85 n x10 a1) ⟨some 46, POp.callv true [[], []] (Operand.tmp 40) [Operand.tmp 44, Operand.tmp 45], some (39, true), []⟩ (fun r11 => [(46, qj r11)]) (fun r11 => []) (by kernel_rfl) (fun r11 hr => pOp_eff (by kernel_rfl) (by kernel_rfl) (eff_callvv (by kernel_rfl) (ARGS := [.agg (Thing.cells x10), qj a1]) (by kernel_rfl) (args_clean (by kernel_rfl) (args_clean (by kernel_rfl) args_nil)) (F85_ok n x10 a1 r11 hr) (by kernel_rfl))) (fun r11 => ?_))
        exact SimI.rd 4 [(7, qb (r11 == 0)), (6, qj i5), (48, qb (r11 == 0)), (47, qb (r11 == 0))] [] (.thenN (.ret .fn))
      · exact SimI.rd 11 [(7, qb false), (6, qj i5), (48, qb false), (47, .tup []), (46, .tup []), (45, .tup []), (44, .tup []), (43, .tup []), (42, .tup []), (41, .tup []), (40, .tup [])] [] (.thenN (.ret .fn))

def F84s0 (n : Nat) (a0 : (List Thing)) (a1 : Int) : Option (Int × Bool) :=
  F84s0_l7 n a0 a1 (n + 8) 0 ((a0).length : Int)
theorem F84s0_ok (n : Nat) (a0 : (List Thing)) (a1 : Int) : ∀ r, F84s0 n a0 a1 = some r → D 84 [.one (vw Thing.cod a0), .one (li .i64 a1), .one (.val (.func (.func 85) #[] #[]))] [] = some ((F84s0_e a0 a1) r) := by
  refine fn_to (D := D) (n := n + 8) (nt := 49) (rs := pc84_r) (c := pc84_c26) (L := [(0, .one (vw Thing.cod a0)), (1, qj a1), (2, .one (.val (.func (.func 85) #[] #[])))]) (M := []) (k := 0) rfl rfl rfl rfl rfl rfl rfl ?_
  unfold F84s0
  refine Sim.sr 2 [(7, qb false), (6, qj 0)] [] (.sr 3 [(8, qj ((a0).length : Int)), (13, qj ((a0).length : Int)), (12, .one (vw Thing.cod a0))] [] (.sr 3 [(10, qj ((a0).length : Int)), (9, qj 0), (14, qj ((a0).length : Int))] [] (.seq (.block (.loop (.pr [0, 1, 2, 8, 9, 10] [] [] [(0, .one (vw Thing.cod a0)), (1, qj a1), (2, .one (.val (.func (.func 85) #[] #[]))), (8, qj ((a0).length : Int)), (9, qj 0), (10, qj ((a0).length : Int))] [] ?_))))))
  exact F84s0_l7_ok n a0 a1 (n + 8) 0 ((a0).length : Int)


-- 88: vedette/fields.Apply
def F88_e : Thing → PV × List Ob := fun r => (.agg (Thing.cells r), [])
def F88_u14 (n : Nat) (g13 : Thing) : Option Thing :=
    some g13
theorem F88_u14_ok (n : Nat) (a1 : Delta) (g13 : Thing) : SimL Try.prog D (n + 8) (n + 4) pc88_c23 [(2, qp 2 0), (3, qp 3 0), (4, qp 4 0), (15, .agg (A4_Field.cells a1.F)), (16, qj 4)] [(2, some (.cells (Thing.cells g13))), (3, some (.cells (Delta.cells a1))), (4, some (.cells [lj 0, lj 0, lj 0, lj 0, ls be, lj 0, ls be, lj 0, ls be, lj 0, ls be]))] (F88_u14 n g13) (QB 0 (QT Try.prog D (n + 8) pc88_c29 (QF false pc88_r 0 F88_e))) := by
    unfold F88_u14
    exact SimL.succ (.seq (.rg [(2, qp 2 0), (3, qp 3 0), (4, qp 4 0), (15, .agg (A4_Field.cells a1.F)), (16, qj 4)] [(2, some (.cells (Thing.cells g13))), (3, some (.cells (Delta.cells a1))), (4, some (.cells [lj 0, lj 0, lj 0, lj 0, ls be, lj 0, ls be, lj 0, ls be, lj 0, ls be]))] (.rd 1 [(17, qb false)] [] (.thenN (.seq (.condF (by kernel_rfl) (.exit (.thenX (.loopX (.blockX (.thenN (.sr 2 [(29, .agg (Thing.cells g13))] [(4, some (.cells (Thing.cells g13)))] (.ret .fn)))))))))))))

def F88_u11 (n : Nat) (a0 : Thing) (a1 : Delta) (g10 : Thing) : Option Thing :=
    (F99 n a1.Mask 3).bind fun (r12 : Bool) =>
    if r12 then
      F88_u14 n (Thing.mk g10.ID g10.At (A4.mk g10.F.a0 g10.F.a1 g10.F.a2 a1.F.a3))
    else
      F88_u14 n g10
theorem F88_u11_ok (n : Nat) (a0 : Thing) (a1 : Delta) (g10 : Thing) : SimL Try.prog D (n + 8) (n + 5) pc88_c23 [(2, qp 2 0), (3, qp 3 0), (4, qp 4 0), (15, .agg (A4_Field.cells a1.F)), (16, qj 3)] [(2, some (.cells (Thing.cells g10))), (3, some (.cells (Delta.cells a1))), (4, some (.cells [lj 0, lj 0, lj 0, lj 0, ls be, lj 0, ls be, lj 0, ls be, lj 0, ls be]))] (F88_u11 n a0 a1 g10) (QB 0 (QT Try.prog D (n + 8) pc88_c29 (QF false pc88_r 0 F88_e))) := by
    unfold F88_u11
    refine SimL.succ (.seq (.rg [(2, qp 2 0), (3, qp 3 0), (4, qp 4 0), (15, .agg (A4_Field.cells a1.F)), (16, qj 3)] [(2, some (.cells (Thing.cells g10))), (3, some (.cells (Delta.cells a1))), (4, some (.cells [lj 0, lj 0, lj 0, lj 0, ls be, lj 0, ls be, lj 0, ls be, lj 0, ls be]))] (.rd 1 [(17, qb true)] [] (.thenN (.seq (.condT (by kernel_rfl) (.skip (.thenN (.seq (.block (.sr 5 [(5, qj 3), (6, qp 6 0), (19, .agg [lj a1.F.a3.N, ls a1.F.a3.Text]), (18, qj 3)] [(6, some (.cells [lj a1.F.a3.N, ls a1.F.a3.Text])), (6, some (.cells [lj 0, ls be]))] (.st 3 [(22, qj 3), (21, .one (li .u8 a1.Mask)), (20, qp 3 1)] [] (.cl 23 true [[], []] 99 [Operand.tmp 21, Operand.tmp 22] none (fun r12 => qb r12) [.one (li .u8 a1.Mask), qj 3] (F99_ok n a1.Mask 3) (fun r12 => ?_))))))))))))))
    refine SimI.dn (.thenN (.cond r12 (by kernel_rfl) ?_ ?_))
    · refine Sim.region0 (.rd 5 [(27, qp 2 9), (26, qp 2 3), (25, .agg [lj a1.F.a3.N, ls a1.F.a3.Text]), (24, qj 3)] [(2, some (.cells [lj g10.ID, lj g10.At.X, lj g10.At.Y, lj g10.F.a0.N, ls g10.F.a0.Text, lj g10.F.a1.N, ls g10.F.a1.Text, lj g10.F.a2.N, ls g10.F.a2.Text, lj a1.F.a3.N, ls a1.F.a3.Text]))] (.blockN (.thenN (.region0 (.rd 2 [(16, qj 4), (28, qj 4)] [] (.loopN (.pr [2, 3, 4, 15, 16] [2, 3, 4, 6] [] [(2, qp 2 0), (3, qp 3 0), (4, qp 4 0), (15, .agg (A4_Field.cells a1.F)), (16, qj 4)] [(2, some (.cells [lj g10.ID, lj g10.At.X, lj g10.At.Y, lj g10.F.a0.N, ls g10.F.a0.Text, lj g10.F.a1.N, ls g10.F.a1.Text, lj g10.F.a2.N, ls g10.F.a2.Text, lj a1.F.a3.N, ls a1.F.a3.Text])), (3, some (.cells (Delta.cells a1))), (4, some (.cells [lj 0, lj 0, lj 0, lj 0, ls be, lj 0, ls be, lj 0, ls be, lj 0, ls be]))] ?_)))))))
      exact F88_u14_ok n a1 (Thing.mk g10.ID g10.At (A4.mk g10.F.a0 g10.F.a1 g10.F.a2 a1.F.a3))
    · refine Sim.skip (.blockN (.thenN (.region0 (.rd 2 [(16, qj 4), (28, qj 4)] [] (.loopN (.pr [2, 3, 4, 15, 16] [2, 3, 4, 6] [] [(2, qp 2 0), (3, qp 3 0), (4, qp 4 0), (15, .agg (A4_Field.cells a1.F)), (16, qj 4)] [(2, some (.cells (Thing.cells g10))), (3, some (.cells (Delta.cells a1))), (4, some (.cells [lj 0, lj 0, lj 0, lj 0, ls be, lj 0, ls be, lj 0, ls be, lj 0, ls be]))] ?_))))))
      exact F88_u14_ok n a1 g10

def F88_u8 (n : Nat) (a0 : Thing) (a1 : Delta) (g7 : Thing) : Option Thing :=
    (F99 n a1.Mask 2).bind fun (r9 : Bool) =>
    if r9 then
      F88_u11 n a0 a1 (Thing.mk g7.ID g7.At (A4.mk g7.F.a0 g7.F.a1 a1.F.a2 g7.F.a3))
    else
      F88_u11 n a0 a1 g7
theorem F88_u8_ok (n : Nat) (a0 : Thing) (a1 : Delta) (g7 : Thing) : SimL Try.prog D (n + 8) (n + 6) pc88_c23 [(2, qp 2 0), (3, qp 3 0), (4, qp 4 0), (15, .agg (A4_Field.cells a1.F)), (16, qj 2)] [(2, some (.cells (Thing.cells g7))), (3, some (.cells (Delta.cells a1))), (4, some (.cells [lj 0, lj 0, lj 0, lj 0, ls be, lj 0, ls be, lj 0, ls be, lj 0, ls be]))] (F88_u8 n a0 a1 g7) (QB 0 (QT Try.prog D (n + 8) pc88_c29 (QF false pc88_r 0 F88_e))) := by
    unfold F88_u8
    refine SimL.succ (.seq (.rg [(2, qp 2 0), (3, qp 3 0), (4, qp 4 0), (15, .agg (A4_Field.cells a1.F)), (16, qj 2)] [(2, some (.cells (Thing.cells g7))), (3, some (.cells (Delta.cells a1))), (4, some (.cells [lj 0, lj 0, lj 0, lj 0, ls be, lj 0, ls be, lj 0, ls be, lj 0, ls be]))] (.rd 1 [(17, qb true)] [] (.thenN (.seq (.condT (by kernel_rfl) (.skip (.thenN (.seq (.block (.sr 5 [(5, qj 2), (6, qp 6 0), (19, .agg [lj a1.F.a2.N, ls a1.F.a2.Text]), (18, qj 2)] [(6, some (.cells [lj a1.F.a2.N, ls a1.F.a2.Text])), (6, some (.cells [lj 0, ls be]))] (.st 3 [(22, qj 2), (21, .one (li .u8 a1.Mask)), (20, qp 3 1)] [] (.cl 23 true [[], []] 99 [Operand.tmp 21, Operand.tmp 22] none (fun r9 => qb r9) [.one (li .u8 a1.Mask), qj 2] (F99_ok n a1.Mask 2) (fun r9 => ?_))))))))))))))
    refine SimI.dn (.thenN (.cond r9 (by kernel_rfl) ?_ ?_))
    · refine Sim.region0 (.rd 5 [(27, qp 2 7), (26, qp 2 3), (25, .agg [lj a1.F.a2.N, ls a1.F.a2.Text]), (24, qj 2)] [(2, some (.cells [lj g7.ID, lj g7.At.X, lj g7.At.Y, lj g7.F.a0.N, ls g7.F.a0.Text, lj g7.F.a1.N, ls g7.F.a1.Text, lj a1.F.a2.N, ls a1.F.a2.Text, lj g7.F.a3.N, ls g7.F.a3.Text]))] (.blockN (.thenN (.region0 (.rd 2 [(16, qj 3), (28, qj 3)] [] (.loopN (.pr [2, 3, 4, 15, 16] [2, 3, 4, 6] [] [(2, qp 2 0), (3, qp 3 0), (4, qp 4 0), (15, .agg (A4_Field.cells a1.F)), (16, qj 3)] [(2, some (.cells [lj g7.ID, lj g7.At.X, lj g7.At.Y, lj g7.F.a0.N, ls g7.F.a0.Text, lj g7.F.a1.N, ls g7.F.a1.Text, lj a1.F.a2.N, ls a1.F.a2.Text, lj g7.F.a3.N, ls g7.F.a3.Text])), (3, some (.cells (Delta.cells a1))), (4, some (.cells [lj 0, lj 0, lj 0, lj 0, ls be, lj 0, ls be, lj 0, ls be, lj 0, ls be]))] ?_)))))))
      exact F88_u11_ok n a0 a1 (Thing.mk g7.ID g7.At (A4.mk g7.F.a0 g7.F.a1 a1.F.a2 g7.F.a3))
    · refine Sim.skip (.blockN (.thenN (.region0 (.rd 2 [(16, qj 3), (28, qj 3)] [] (.loopN (.pr [2, 3, 4, 15, 16] [2, 3, 4, 6] [] [(2, qp 2 0), (3, qp 3 0), (4, qp 4 0), (15, .agg (A4_Field.cells a1.F)), (16, qj 3)] [(2, some (.cells (Thing.cells g7))), (3, some (.cells (Delta.cells a1))), (4, some (.cells [lj 0, lj 0, lj 0, lj 0, ls be, lj 0, ls be, lj 0, ls be, lj 0, ls be]))] ?_))))))
      exact F88_u11_ok n a0 a1 g7

def F88_u5 (n : Nat) (a0 : Thing) (a1 : Delta) (g4 : Thing) : Option Thing :=
    (F99 n a1.Mask 1).bind fun (r6 : Bool) =>
    if r6 then
      F88_u8 n a0 a1 (Thing.mk g4.ID g4.At (A4.mk g4.F.a0 a1.F.a1 g4.F.a2 g4.F.a3))
    else
      F88_u8 n a0 a1 g4
theorem F88_u5_ok (n : Nat) (a0 : Thing) (a1 : Delta) (g4 : Thing) : SimL Try.prog D (n + 8) (n + 7) pc88_c23 [(2, qp 2 0), (3, qp 3 0), (4, qp 4 0), (15, .agg (A4_Field.cells a1.F)), (16, qj 1)] [(2, some (.cells (Thing.cells g4))), (3, some (.cells (Delta.cells a1))), (4, some (.cells [lj 0, lj 0, lj 0, lj 0, ls be, lj 0, ls be, lj 0, ls be, lj 0, ls be]))] (F88_u5 n a0 a1 g4) (QB 0 (QT Try.prog D (n + 8) pc88_c29 (QF false pc88_r 0 F88_e))) := by
    unfold F88_u5
    refine SimL.succ (.seq (.rg [(2, qp 2 0), (3, qp 3 0), (4, qp 4 0), (15, .agg (A4_Field.cells a1.F)), (16, qj 1)] [(2, some (.cells (Thing.cells g4))), (3, some (.cells (Delta.cells a1))), (4, some (.cells [lj 0, lj 0, lj 0, lj 0, ls be, lj 0, ls be, lj 0, ls be, lj 0, ls be]))] (.rd 1 [(17, qb true)] [] (.thenN (.seq (.condT (by kernel_rfl) (.skip (.thenN (.seq (.block (.sr 5 [(5, qj 1), (6, qp 6 0), (19, .agg [lj a1.F.a1.N, ls a1.F.a1.Text]), (18, qj 1)] [(6, some (.cells [lj a1.F.a1.N, ls a1.F.a1.Text])), (6, some (.cells [lj 0, ls be]))] (.st 3 [(22, qj 1), (21, .one (li .u8 a1.Mask)), (20, qp 3 1)] [] (.cl 23 true [[], []] 99 [Operand.tmp 21, Operand.tmp 22] none (fun r6 => qb r6) [.one (li .u8 a1.Mask), qj 1] (F99_ok n a1.Mask 1) (fun r6 => ?_))))))))))))))
    refine SimI.dn (.thenN (.cond r6 (by kernel_rfl) ?_ ?_))
    · refine Sim.region0 (.rd 5 [(27, qp 2 5), (26, qp 2 3), (25, .agg [lj a1.F.a1.N, ls a1.F.a1.Text]), (24, qj 1)] [(2, some (.cells [lj g4.ID, lj g4.At.X, lj g4.At.Y, lj g4.F.a0.N, ls g4.F.a0.Text, lj a1.F.a1.N, ls a1.F.a1.Text, lj g4.F.a2.N, ls g4.F.a2.Text, lj g4.F.a3.N, ls g4.F.a3.Text]))] (.blockN (.thenN (.region0 (.rd 2 [(16, qj 2), (28, qj 2)] [] (.loopN (.pr [2, 3, 4, 15, 16] [2, 3, 4, 6] [] [(2, qp 2 0), (3, qp 3 0), (4, qp 4 0), (15, .agg (A4_Field.cells a1.F)), (16, qj 2)] [(2, some (.cells [lj g4.ID, lj g4.At.X, lj g4.At.Y, lj g4.F.a0.N, ls g4.F.a0.Text, lj a1.F.a1.N, ls a1.F.a1.Text, lj g4.F.a2.N, ls g4.F.a2.Text, lj g4.F.a3.N, ls g4.F.a3.Text])), (3, some (.cells (Delta.cells a1))), (4, some (.cells [lj 0, lj 0, lj 0, lj 0, ls be, lj 0, ls be, lj 0, ls be, lj 0, ls be]))] ?_)))))))
      exact F88_u8_ok n a0 a1 (Thing.mk g4.ID g4.At (A4.mk g4.F.a0 a1.F.a1 g4.F.a2 g4.F.a3))
    · refine Sim.skip (.blockN (.thenN (.region0 (.rd 2 [(16, qj 2), (28, qj 2)] [] (.loopN (.pr [2, 3, 4, 15, 16] [2, 3, 4, 6] [] [(2, qp 2 0), (3, qp 3 0), (4, qp 4 0), (15, .agg (A4_Field.cells a1.F)), (16, qj 2)] [(2, some (.cells (Thing.cells g4))), (3, some (.cells (Delta.cells a1))), (4, some (.cells [lj 0, lj 0, lj 0, lj 0, ls be, lj 0, ls be, lj 0, ls be, lj 0, ls be]))] ?_))))))
      exact F88_u8_ok n a0 a1 g4

def F88_j2 (n : Nat) (a0 : Thing) (a1 : Delta) (g1 : Thing) : Option Thing :=
    (F99 n a1.Mask 0).bind fun (r3 : Bool) =>
    if r3 then
      F88_u5 n a0 a1 (Thing.mk g1.ID g1.At (A4.mk a1.F.a0 g1.F.a1 g1.F.a2 g1.F.a3))
    else
      F88_u5 n a0 a1 g1
theorem F88_j2_ok (n : Nat) (a0 : Thing) (a1 : Delta) (g1 : Thing) : Sim Try.prog D (n + 8) pc88_c30 [(2, qp 2 0), (3, qp 3 0), (4, qp 4 0)] [(2, some (.cells (Thing.cells g1))), (3, some (.cells (Delta.cells a1))), (4, some (.cells [lj 0, lj 0, lj 0, lj 0, ls be, lj 0, ls be, lj 0, ls be, lj 0, ls be]))] (F88_j2 n a0 a1 g1) (QF false pc88_r 0 F88_e) := by
    unfold F88_j2
    refine Sim.seq (.seq (.rg [(2, qp 2 0), (3, qp 3 0), (4, qp 4 0)] [(2, some (.cells (Thing.cells g1))), (3, some (.cells (Delta.cells a1))), (4, some (.cells [lj 0, lj 0, lj 0, lj 0, ls be, lj 0, ls be, lj 0, ls be, lj 0, ls be]))] (.rd 3 [(16, qj 0), (15, .agg (A4_Field.cells a1.F)), (14, qp 3 4)] [] (.thenN (.block (.loop (.succ (.seq (.rg [(2, qp 2 0), (3, qp 3 0), (4, qp 4 0), (15, .agg (A4_Field.cells a1.F)), (16, qj 0)] [(2, some (.cells (Thing.cells g1))), (3, some (.cells (Delta.cells a1))), (4, some (.cells [lj 0, lj 0, lj 0, lj 0, ls be, lj 0, ls be, lj 0, ls be, lj 0, ls be]))] (.rd 1 [(17, qb true)] [] (.thenN (.seq (.condT (by kernel_rfl) (.skip (.thenN (.seq (.block (.sr 5 [(5, qj 0), (6, qp 6 0), (19, .agg [lj a1.F.a0.N, ls a1.F.a0.Text]), (18, qj 0)] [(6, some (.cells [lj a1.F.a0.N, ls a1.F.a0.Text])), (6, some (.cells [lj 0, ls be]))] (.st 3 [(22, qj 0), (21, .one (li .u8 a1.Mask)), (20, qp 3 1)] [] (.cl 23 true [[], []] 99 [Operand.tmp 21, Operand.tmp 22] none (fun r3 => qb r3) [.one (li .u8 a1.Mask), qj 0] (F99_ok n a1.Mask 0) (fun r3 => ?_)))))))))))))))))))))
    refine SimI.dn (.thenN (.cond r3 (by kernel_rfl) ?_ ?_))
    · refine Sim.region0 (.rd 5 [(27, qp 2 3), (26, qp 2 3), (25, .agg [lj a1.F.a0.N, ls a1.F.a0.Text]), (24, qj 0)] [(2, some (.cells [lj g1.ID, lj g1.At.X, lj g1.At.Y, lj a1.F.a0.N, ls a1.F.a0.Text, lj g1.F.a1.N, ls g1.F.a1.Text, lj g1.F.a2.N, ls g1.F.a2.Text, lj g1.F.a3.N, ls g1.F.a3.Text]))] (.blockN (.thenN (.region0 (.rd 2 [(16, qj 1), (28, qj 1)] [] (.loopN (.pr [2, 3, 4, 15, 16] [2, 3, 4, 6] [] [(2, qp 2 0), (3, qp 3 0), (4, qp 4 0), (15, .agg (A4_Field.cells a1.F)), (16, qj 1)] [(2, some (.cells [lj g1.ID, lj g1.At.X, lj g1.At.Y, lj a1.F.a0.N, ls a1.F.a0.Text, lj g1.F.a1.N, ls g1.F.a1.Text, lj g1.F.a2.N, ls g1.F.a2.Text, lj g1.F.a3.N, ls g1.F.a3.Text])), (3, some (.cells (Delta.cells a1))), (4, some (.cells [lj 0, lj 0, lj 0, lj 0, ls be, lj 0, ls be, lj 0, ls be, lj 0, ls be]))] ?_)))))))
      exact F88_u5_ok n a0 a1 (Thing.mk g1.ID g1.At (A4.mk a1.F.a0 g1.F.a1 g1.F.a2 g1.F.a3))
    · refine Sim.skip (.blockN (.thenN (.region0 (.rd 2 [(16, qj 1), (28, qj 1)] [] (.loopN (.pr [2, 3, 4, 15, 16] [2, 3, 4, 6] [] [(2, qp 2 0), (3, qp 3 0), (4, qp 4 0), (15, .agg (A4_Field.cells a1.F)), (16, qj 1)] [(2, some (.cells (Thing.cells g1))), (3, some (.cells (Delta.cells a1))), (4, some (.cells [lj 0, lj 0, lj 0, lj 0, ls be, lj 0, ls be, lj 0, ls be, lj 0, ls be]))] ?_))))))
      exact F88_u5_ok n a0 a1 g1

def F88 (n : Nat) (a0 : Thing) (a1 : Delta) : Option Thing :=
  if (bitsI .and .u8 a1.Mask 1) != 0 then
    F88_j2 n a0 a1 (Thing.mk a0.ID a1.At a0.F)
  else
    F88_j2 n a0 a1 a0
theorem F88_ok (n : Nat) (a0 : Thing) (a1 : Delta) : ∀ r, F88 n a0 a1 = some r → D 88 [.agg (Thing.cells a0), .agg (Delta.cells a1)] [] = some (F88_e r) := by
  refine fn_to (D := D) (n := n + 8) (nt := 30) (rs := pc88_r) (c := pc88_c32) (L := [(0, .agg (Thing.cells a0)), (1, .agg (Delta.cells a1))]) (M := []) (k := 0) rfl rfl rfl rfl rfl rfl rfl ?_
  unfold F88
  refine Sim.sr 3 [(4, qp 4 0), (3, qp 3 0), (2, qp 2 0)] [(4, some (.cells [lj 0, lj 0, lj 0, lj 0, ls be, lj 0, ls be, lj 0, ls be, lj 0, ls be])), (3, some (.cells (Delta.cells a1))), (2, some (.cells (Thing.cells a0)))] (.seq (.sr 4 [(10, qb ((bitsI .and .u8 a1.Mask 1) != 0)), (9, .one (li .u8 (bitsI .and .u8 a1.Mask 1))), (8, .one (li .u8 a1.Mask)), (7, qp 3 1)] [] (.cond ((bitsI .and .u8 a1.Mask 1) != 0) (by kernel_rfl) ?_ ?_)))
  · refine Sim.region0 (.rd 4 [(13, qp 2 1), (12, .agg [lj a1.At.X, lj a1.At.Y]), (11, qp 3 2)] [(2, some (.cells [lj a0.ID, lj a1.At.X, lj a1.At.Y, lj a0.F.a0.N, ls a0.F.a0.Text, lj a0.F.a1.N, ls a0.F.a1.Text, lj a0.F.a2.N, ls a0.F.a2.Text, lj a0.F.a3.N, ls a0.F.a3.Text]))] (.thenN (.pr [2, 3, 4] [2, 3, 4] [] [(2, qp 2 0), (3, qp 3 0), (4, qp 4 0)] [(2, some (.cells [lj a0.ID, lj a1.At.X, lj a1.At.Y, lj a0.F.a0.N, ls a0.F.a0.Text, lj a0.F.a1.N, ls a0.F.a1.Text, lj a0.F.a2.N, ls a0.F.a2.Text, lj a0.F.a3.N, ls a0.F.a3.Text])), (3, some (.cells (Delta.cells a1))), (4, some (.cells [lj 0, lj 0, lj 0, lj 0, ls be, lj 0, ls be, lj 0, ls be, lj 0, ls be]))] ?_)))
    exact F88_j2_ok n a0 a1 (Thing.mk a0.ID a1.At a0.F)
  · refine Sim.skip (.thenN (.pr [2, 3, 4] [2, 3, 4] [] [(2, qp 2 0), (3, qp 3 0), (4, qp 4 0)] [(2, some (.cells (Thing.cells a0))), (3, some (.cells (Delta.cells a1))), (4, some (.cells [lj 0, lj 0, lj 0, lj 0, ls be, lj 0, ls be, lj 0, ls be, lj 0, ls be]))] ?_))
    exact F88_j2_ok n a0 a1 a0


-- 51: vedette/event.Apply
def F51_e : ((List Thing) × Bool) → PV × List Ob := fun r => (.tup [.one (vw Thing.cod r.1), .one (lb r.2)], [])
def F51 (n : Nat) (a0 : (List Thing)) (a1 : Event) : Option ((List Thing) × Bool) :=
  (F84s0 n a0 a1.ID).bind fun (r1 : (Int × Bool)) =>
  (F39 n a1).bind fun (r2 : Bool) =>
  if !(r2) then
    (cloneL a0).bind fun (l3 : (List Thing)) =>
    some (l3, false)
  else
    if r1.2 == (a1.Kind == 1) then
      (cloneL a0).bind fun (l4 : (List Thing)) =>
      some (l4, false)
    else
      (cloneL a0).bind fun (l5 : (List Thing)) =>
      if a1.Kind == 1 then
        (insL l5 r1.1 a1.Thing).bind fun (l6 : (List Thing)) =>
        some (l6, true)
      else
        if a1.Kind == 2 then
          (ix l5 r1.1).bind fun (x7 : Thing) =>
          (F88 n x7 a1.Delta).bind fun (r8 : Thing) =>
          (ix l5 r1.1).bind fun (x9 : Thing) =>
          some (((l5).set ((r1.1).toNat) r8), true)
        else
          (delL l5 r1.1 (IntKind.wrap .i64 (r1.1 + 1))).bind fun (l10 : (List Thing)) =>
          some (l10, true)
theorem F51_ok (n : Nat) (a0 : (List Thing)) (a1 : Event) : ∀ r, F51 n a0 a1 = some r → D 51 [.one (vw Thing.cod a0), .agg (Event.cells a1)] [] = some (F51_e r) := by
  refine fn_to (D := D) (n := n + 8) (nt := 58) (rs := pc51_r) (c := pc51_c30) (L := [(0, .one (vw Thing.cod a0)), (1, .agg (Event.cells a1))]) (M := []) (k := 0) rfl rfl rfl rfl rfl rfl rfl ?_
  unfold F51
  refine Sim.sr 3 [(5, qb false), (4, .one (lnil)), (3, qp 3 0)] [(3, some (.cells (Event.cells a1)))] (.st 3 [(12, qj a1.ID), (11, qp 3 1), (10, .one (vw Thing.cod a0))] [] (.bind (og := F84s0 n a0 a1.ID) ⟨some 13, POp.gcall false false [300000, 300001, 300002, 300003, 300004, 300005, 300006, 300007] [[(0, 11)], [], []] 84 [Operand.tmp 10, Operand.tmp 12, Operand.func 85], none, []⟩ (fun r1 => [(13, .tup [qj r1.1, qb r1.2])]) (fun r1 => []) (by kernel_rfl) (fun r1 hr => pOp_eff (by kernel_rfl) (by kernel_rfl) (eff_gcall (ks := []) (rks := []) (new := []) (ARGS := [.one (vw Thing.cod a0), qj a1.ID, .one (.val (.func (.func 85) #[] #[]))]) (args1 := [.one (vw Thing.cod a0), qj a1.ID, .one (.val (.func (.func 85) #[] #[]))]) (args2 := [.one (vw Thing.cod a0), qj a1.ID, .one (.val (.func (.func 85) #[] #[]))]) (os := []) (os' := []) (os1 := []) (res := .tup [qj r1.1, qb r1.2]) (res1 := .tup [qj r1.1, qb r1.2]) (r := .tup [qj r1.1, qb r1.2]) (N := []) (by kernel_rfl) (readA_ow (readA_keep (by kernel_rfl) (readA_keep (by kernel_rfl) (readA_keep (by kernel_rfl) (readA_nil))))) (by kernel_rfl) (by kernel_rfl) (by kernel_rfl) (by kernel_rfl) (F84s0_ok n a0 a1.ID r1 hr) (by kernel_rfl) (by kernel_rfl) (by kernel_rfl) rfl (by kernel_rfl) (by kernel_rfl) (by kernel_rfl))) (fun r1 => ?_)))
  refine SimI.rd 5 [(7, qb r1.2), (6, qj r1.1), (15, qb r1.2), (14, qj r1.1), (9, .tup [qj r1.1, qb r1.2])] [] (.thenN (.seq (.st 1 [(16, .agg (Event.cells a1))] [] (.cl 17 true [[]] 39 [Operand.tmp 16] none (fun r2 => qb r2) [.agg (Event.cells a1)] (F39_ok n a1) (fun r2 => ?_)))))
  refine SimI.rn 2 [(19, qb (!(r2))), (18, qb (!(r2)))] [] (.split 19 (!(r2)) (by kernel_rfl) ?_ ?_)
  · refine SimI.rd 6 [(25, qb true), (24, .tup []), (23, .tup []), (22, .tup []), (21, .tup []), (20, .tup [])] [] (.thenN (.condT (by kernel_rfl) (.st 1 [(26, .one (vw Thing.cod a0))] [] (.bind (og := cloneL a0) ⟨some 27, POp.gcall false false [300000, 300001, 300002, 300003, 300004, 300005, 300006, 300007] [[(0, 11)]] 78 [Operand.tmp 26], none, []⟩ (fun l3 => [(27, .one (.osl 300000 0 0 (l3).length))]) (fun l3 => [(300000, some (.arr 28 Thing.cod.sz 0 (l3).length (getOf Thing.cod l3)))]) (by kernel_rfl) (fun l3 hr => pOp_eff (by kernel_rfl) (by kernel_rfl) (eff_gcall (ks := []) (rks := []) (new := [300000]) (ARGS := [.one (vw Thing.cod a0)]) (args1 := [.one (vw Thing.cod a0)]) (args2 := [.one (vw Thing.cod a0)]) (os := []) (os' := [.arr 28 Thing.cod.sz 0 (l3).length (getOf Thing.cod l3)]) (os1 := [.arr 28 Thing.cod.sz 0 (l3).length (getOf Thing.cod l3)]) (res := .one (.osl 1000000 0 0 (l3).length)) (res1 := .one (.osl 1000000 0 0 (l3).length)) (r := .one (.osl 300000 0 0 (l3).length)) (N := [(300000, some (.arr 28 Thing.cod.sz 0 (l3).length (getOf Thing.cod l3)))]) (by kernel_rfl) (readA_ow (readA_keep (by kernel_rfl) (readA_nil))) (by kernel_rfl) (by kernel_rfl) (by kernel_rfl) (by kernel_rfl) (D_b78 (l := a0) (r := l3) hr) (by kernel_rfl) (by kernel_rfl) (by kernel_rfl) (by kernel_rfl) (by kernel_rfl) (by kernel_rfl) (by kernel_rfl))) (fun l3 => ?_)))))
    exact SimI.rd 2 [(5, qb false), (4, .one (.osl 300000 0 0 (l3).length))] [] (.thenN (.ret (.thenR (.fin (out_of (os := []) (ress_cons (resOf_own (c := Thing.cod) (k := 300000) (g := 0) (el := 28) (l := l3) (by kernel_rfl) (by kernel_rfl) (by kernel_rfl)) (ress_cons (v := qb false) (by kernel_rfl) (ress_nil))) (by kernel_rfl) rfl (by kernel_rfl))))))
  · refine SimI.rd 6 [(25, qb (r1.2 == (a1.Kind == 1))), (24, qb (r1.2 == (a1.Kind == 1))), (23, qb (a1.Kind == 1)), (22, qj a1.Kind), (21, qp 3 0), (20, qb r1.2)] [] (.thenN (.cond (r1.2 == (a1.Kind == 1)) (by kernel_rfl) ?_ ?_))
    · refine Sim.st 1 [(26, .one (vw Thing.cod a0))] [] (.bind (og := cloneL a0) ⟨some 27, POp.gcall false false [300000, 300001, 300002, 300003, 300004, 300005, 300006, 300007] [[(0, 11)]] 78 [Operand.tmp 26], none, []⟩ (fun l4 => [(27, .one (.osl 300000 0 0 (l4).length))]) (fun l4 => [(300000, some (.arr 28 Thing.cod.sz 0 (l4).length (getOf Thing.cod l4)))]) (by kernel_rfl) (fun l4 hr => pOp_eff (by kernel_rfl) (by kernel_rfl) (eff_gcall (ks := []) (rks := []) (new := [300000]) (ARGS := [.one (vw Thing.cod a0)]) (args1 := [.one (vw Thing.cod a0)]) (args2 := [.one (vw Thing.cod a0)]) (os := []) (os' := [.arr 28 Thing.cod.sz 0 (l4).length (getOf Thing.cod l4)]) (os1 := [.arr 28 Thing.cod.sz 0 (l4).length (getOf Thing.cod l4)]) (res := .one (.osl 1000000 0 0 (l4).length)) (res1 := .one (.osl 1000000 0 0 (l4).length)) (r := .one (.osl 300000 0 0 (l4).length)) (N := [(300000, some (.arr 28 Thing.cod.sz 0 (l4).length (getOf Thing.cod l4)))]) (by kernel_rfl) (readA_ow (readA_keep (by kernel_rfl) (readA_nil))) (by kernel_rfl) (by kernel_rfl) (by kernel_rfl) (by kernel_rfl) (D_b78 (l := a0) (r := l4) hr) (by kernel_rfl) (by kernel_rfl) (by kernel_rfl) (by kernel_rfl) (by kernel_rfl) (by kernel_rfl) (by kernel_rfl))) (fun l4 => ?_))
      exact SimI.rd 2 [(5, qb false), (4, .one (.osl 300000 0 0 (l4).length))] [] (.thenN (.ret (.thenR (.fin (out_of (os := []) (ress_cons (resOf_own (c := Thing.cod) (k := 300000) (g := 0) (el := 28) (l := l4) (by kernel_rfl) (by kernel_rfl) (by kernel_rfl)) (ress_cons (v := qb false) (by kernel_rfl) (ress_nil))) (by kernel_rfl) rfl (by kernel_rfl))))))
    · refine Sim.skip (.thenN (.st 1 [(28, .one (vw Thing.cod a0))] [] (.bind (og := cloneL a0) ⟨some 29, POp.gcall false false [300000, 300001, 300002, 300003, 300004, 300005, 300006, 300007] [[(0, 11)]] 78 [Operand.tmp 28], none, []⟩ (fun l5 => [(29, .one (.osl 300000 0 0 (l5).length))]) (fun l5 => [(300000, some (.arr 28 Thing.cod.sz 0 (l5).length (getOf Thing.cod l5)))]) (by kernel_rfl) (fun l5 hr => pOp_eff (by kernel_rfl) (by kernel_rfl) (eff_gcall (ks := []) (rks := []) (new := [300000]) (ARGS := [.one (vw Thing.cod a0)]) (args1 := [.one (vw Thing.cod a0)]) (args2 := [.one (vw Thing.cod a0)]) (os := []) (os' := [.arr 28 Thing.cod.sz 0 (l5).length (getOf Thing.cod l5)]) (os1 := [.arr 28 Thing.cod.sz 0 (l5).length (getOf Thing.cod l5)]) (res := .one (.osl 1000000 0 0 (l5).length)) (res1 := .one (.osl 1000000 0 0 (l5).length)) (r := .one (.osl 300000 0 0 (l5).length)) (N := [(300000, some (.arr 28 Thing.cod.sz 0 (l5).length (getOf Thing.cod l5)))]) (by kernel_rfl) (readA_ow (readA_keep (by kernel_rfl) (readA_nil))) (by kernel_rfl) (by kernel_rfl) (by kernel_rfl) (by kernel_rfl) (D_b78 (l := a0) (r := l5) hr) (by kernel_rfl) (by kernel_rfl) (by kernel_rfl) (by kernel_rfl) (by kernel_rfl) (by kernel_rfl) (by kernel_rfl))) (fun l5 => ?_))))
      refine SimI.rd 1 [(8, .one (.osl 300000 0 0 (l5).length))] [] (.thenN (.seq (.sr 2 [(31, qj a1.Kind), (30, qp 3 0)] [] (.block (.sr 2 [(37, qb (a1.Kind == 1)), (38, qb (a1.Kind == 1))] [] (.cond (a1.Kind == 1) (by kernel_rfl) ?_ ?_))))))
      · refine Sim.region0 (.rn 5 [(43, .one (.csl 43 11 0 1)), (42, .agg (Thing.cells a1.Thing)), (41, qp 3 2), (40, qj r1.1), (39, .one (.osl 300000 0 0 (l5).length))] [(43, some (.cells (Thing.cells a1.Thing)))] (.bind (og := insL l5 r1.1 a1.Thing) ⟨some 44, POp.gcall true false [43, 300000, 300001, 300002, 300003, 300004, 300005, 300006, 300007] [[(0, 11)], [], [(0, 11)]] 87 [Operand.tmp 39, Operand.tmp 40, Operand.tmp 43], none, []⟩ (fun l6 => [(44, .one (.osl 300000 (0 + 1) 0 (l6).length))]) (fun l6 => [(300000, some (.arr 28 Thing.cod.sz (0 + 1) (l6).length (getOf Thing.cod l6))), (43, some (.cells (Thing.cells a1.Thing)))]) (by kernel_rfl) (fun l6 hr => pOp_eff (by kernel_rfl) (by kernel_rfl) (eff_gcall (ks := [300000, 43]) (rks := []) (new := []) (ARGS := [.one (.osl 300000 0 0 (l5).length), qj r1.1, .one (.csl 43 11 0 1)]) (args1 := [.one (.osl 300000 0 0 (l5).length), qj r1.1, .one (.csl 43 11 0 1)]) (args2 := [.one (.osl 1000000 0 0 (l5).length), qj r1.1, .one (.csl 1000001 11 0 1)]) (os := [.arr 28 Thing.cod.sz 0 (l5).length (getOf Thing.cod l5), .cells (Thing.cells a1.Thing)]) (os' := [.arr 28 Thing.cod.sz 1 (l6).length (getOf Thing.cod l6), .cells (Thing.cells a1.Thing)]) (os1 := [.arr 28 Thing.cod.sz 1 (l6).length (getOf Thing.cod l6), .cells (Thing.cells a1.Thing)]) (res := .one (.osl 1000000 1 0 (l6).length)) (res1 := .one (.osl 1000000 1 0 (l6).length)) (r := .one (.osl 300000 (0 + 1) 0 (l6).length)) (N := [(300000, some (.arr 28 Thing.cod.sz (0 + 1) (l6).length (getOf Thing.cod l6))), (43, some (.cells (Thing.cells a1.Thing)))]) (by kernel_rfl) (by kernel_rfl) (by kernel_rfl) (by kernel_rfl) (by kernel_rfl) (by kernel_rfl) (D_b87 (l := l5) (i := r1.1) (a := a1.Thing) (r := l6) hr) (by kernel_rfl) (by kernel_rfl) (by kernel_rfl) (by kernel_rfl) (by kernel_rfl) (by kernel_rfl) (by kernel_rfl))) (fun l6 => ?_)))
        exact SimI.rd 1 [(8, .one (.osl 300000 (0 + 1) 0 (l6).length))] [] (.blockN (.thenN (.sr 3 [(5, qb true), (4, .one (.osl 300000 (0 + 1) 0 (l6).length)), (57, .one (.osl 300000 (0 + 1) 0 (l6).length))] [] (.ret (.fin (out_of (os := []) (ress_cons (resOf_own (c := Thing.cod) (k := 300000) (g := (0 + 1)) (el := 28) (l := l6) (by kernel_rfl) (by kernel_rfl) (by kernel_rfl)) (ress_cons (v := qb true) (by kernel_rfl) (ress_nil))) (by kernel_rfl) rfl (by kernel_rfl)))))))
      · refine Sim.sr 2 [(45, qb (a1.Kind == 2)), (46, qb (a1.Kind == 2))] [] (.cond (a1.Kind == 2) (by kernel_rfl) ?_ ?_)
        · refine Sim.region0 (.rn 4 [(50, qj r1.1), (49, .one (.osl 300000 0 0 (l5).length)), (48, qj r1.1), (47, .one (.osl 300000 0 0 (l5).length))] [] (.bindh (og := ix l5 r1.1) ⟨some 51, POp.iaddrS 11 (Operand.tmp 49) (Operand.tmp 50), none, [(49, Hint.obj 300000), (50, Hint.imm)]⟩ (fun x7 => [(51, .one (.aptr 300000 0 ((r1.1).toNat) 0))]) (fun x7 => []) (by kernel_rfl) (fun x7 hr => pOp_eff (by kernel_rfl) (by kernel_rfl) (eff_idxO (c := Thing.cod) (l := l5) (g := 0) (el := 28) (k := .i64) (n := r1.1) (by kernel_rfl) (by kernel_rfl) (by kernel_rfl) (by kernel_rfl) hr)) (fun x7 hx7 => ?_)))
          refine SimI.step ⟨some 52, POp.load true 11 (Operand.tmp 51), none, [(51, Hint.obj 300000)]⟩ [(52, .agg (Thing.cells x7))] [] (by kernel_rfl) (pOp_eff (by kernel_rfl) (by kernel_rfl) (eff_loadO (c := Thing.cod) (a := x7) (l := l5) (key := 300000) (g := 0) (el := 28) (off := 0) (i := (r1.1).toNat) (by kernel_rfl) (by kernel_rfl) (ix_some hx7).2.2.2 (by kernel_rfl))) (.rn 2 [(54, .agg (Delta.cells a1.Delta)), (53, qp 3 13)] [] (.bind (og := F88 n x7 a1.Delta) ⟨some 55, POp.call false [[], []] 88 [Operand.tmp 52, Operand.tmp 54], none, [(52, Hint.imm), (54, Hint.imm)]⟩ (fun r8 => [(55, .agg (Thing.cells r8))]) (fun r8 => []) (by kernel_rfl) (fun r8 hr => pOp_eff (by kernel_rfl) (by kernel_rfl) (eff_call (ARGS := [.agg (Thing.cells x7), .agg (Delta.cells a1.Delta)]) (by kernel_rfl) (args_clean (by kernel_rfl) (args_clean (by kernel_rfl) args_nil)) (F88_ok n x7 a1.Delta r8 hr) (by kernel_rfl))) (fun r8 => ?_)))
          refine SimI.bindh (og := ix l5 r1.1) ⟨some 56, POp.iaddrS 11 (Operand.tmp 47) (Operand.tmp 48), none, [(47, Hint.obj 300000), (48, Hint.imm)]⟩ (fun x9 => [(56, .one (.aptr 300000 0 ((r1.1).toNat) 0))]) (fun x9 => []) (by kernel_rfl) (fun x9 hr => pOp_eff (by kernel_rfl) (by kernel_rfl) (eff_idxO (c := Thing.cod) (l := l5) (g := 0) (el := 28) (k := .i64) (n := r1.1) (by kernel_rfl) (by kernel_rfl) (by kernel_rfl) (by kernel_rfl) hr)) (fun x9 hx9 => ?_)
          exact SimI.step ⟨none, POp.store 11 (Operand.tmp 56) (Operand.tmp 55), none, [(56, Hint.obj 300000), (55, Hint.imm)]⟩ [] [(300000, some (.arr 28 Thing.cod.sz 0 (((l5).set ((r1.1).toNat) r8)).length (getOf Thing.cod ((l5).set ((r1.1).toNat) r8))))] (by kernel_rfl) (pOp_eff_ (by kernel_rfl) (by kernel_rfl) (eff_storeO (c := Thing.cod) (key := 300000) (g := 0) (el := 28) (l := l5) (i := (r1.1).toNat) (b := r8) (by kernel_rfl) (by kernel_rfl) (by kernel_rfl) (ix_some hx9).2.2.1 (fun _ => rfl) rfl (by kernel_rfl))) (.slot 8 (.one (.osl 300000 0 0 (((l5).set ((r1.1).toNat) r8)).length)) (Eq.trans (b := PV.one (.osl 300000 0 0 (l5).length)) (by kernel_rfl) (congrArg (fun z => PV.one (Lf.osl 300000 0 0 z)) List.length_set.symm)) (.dn (.blockN (.thenN (.sr 3 [(5, qb true), (4, .one (.osl 300000 0 0 (((l5).set ((r1.1).toNat) r8)).length)), (57, .one (.osl 300000 0 0 (((l5).set ((r1.1).toNat) r8)).length))] [] (.ret (.fin (out_of (os := []) (ress_cons (resOf_own (c := Thing.cod) (k := 300000) (g := 0) (el := 28) (l := ((l5).set ((r1.1).toNat) r8)) (by kernel_rfl) (by kernel_rfl) (by kernel_rfl)) (ress_cons (v := qb true) (by kernel_rfl) (ress_nil))) (by kernel_rfl) rfl (by kernel_rfl)))))))))
        · refine Sim.region0 (.rn 4 [(35, qj (IntKind.wrap .i64 (r1.1 + 1))), (34, qj r1.1), (33, qj r1.1), (32, .one (.osl 300000 0 0 (l5).length))] [] (.bind (og := delL l5 r1.1 (IntKind.wrap .i64 (r1.1 + 1))) ⟨some 36, POp.gcall true false [300000, 300001, 300002, 300003, 300004, 300005, 300006, 300007] [[(0, 11)], [], []] 89 [Operand.tmp 32, Operand.tmp 33, Operand.tmp 35], none, []⟩ (fun l10 => [(36, .one (.osl 300000 (0 + 1) 0 (l10).length))]) (fun l10 => [(300000, some (.arr 28 Thing.cod.sz (0 + 1) (l10).length (getOf Thing.cod l10)))]) (by kernel_rfl) (fun l10 hr => pOp_eff (by kernel_rfl) (by kernel_rfl) (eff_gcall (ks := [300000]) (rks := []) (new := []) (ARGS := [.one (.osl 300000 0 0 (l5).length), qj r1.1, qj (IntKind.wrap .i64 (r1.1 + 1))]) (args1 := [.one (.osl 300000 0 0 (l5).length), qj r1.1, qj (IntKind.wrap .i64 (r1.1 + 1))]) (args2 := [.one (.osl 1000000 0 0 (l5).length), qj r1.1, qj (IntKind.wrap .i64 (r1.1 + 1))]) (os := [.arr 28 Thing.cod.sz 0 (l5).length (getOf Thing.cod l5)]) (os' := [.arr 28 Thing.cod.sz 1 (l10).length (getOf Thing.cod l10)]) (os1 := [.arr 28 Thing.cod.sz 1 (l10).length (getOf Thing.cod l10)]) (res := .one (.osl 1000000 1 0 (l10).length)) (res1 := .one (.osl 1000000 1 0 (l10).length)) (r := .one (.osl 300000 (0 + 1) 0 (l10).length)) (N := [(300000, some (.arr 28 Thing.cod.sz (0 + 1) (l10).length (getOf Thing.cod l10)))]) (by kernel_rfl) (by kernel_rfl) (by kernel_rfl) (by kernel_rfl) (by kernel_rfl) (by kernel_rfl) (D_b89 (l := l5) (i := r1.1) (j := IntKind.wrap .i64 (r1.1 + 1)) (r := l10) hr) (by kernel_rfl) (by kernel_rfl) (by kernel_rfl) (by kernel_rfl) (by kernel_rfl) (by kernel_rfl) (by kernel_rfl))) (fun l10 => ?_)))
          exact SimI.rd 1 [(8, .one (.osl 300000 (0 + 1) 0 (l10).length))] [] (.blockN (.thenN (.sr 3 [(5, qb true), (4, .one (.osl 300000 (0 + 1) 0 (l10).length)), (57, .one (.osl 300000 (0 + 1) 0 (l10).length))] [] (.ret (.fin (out_of (os := []) (ress_cons (resOf_own (c := Thing.cod) (k := 300000) (g := (0 + 1)) (el := 28) (l := l10) (by kernel_rfl) (by kernel_rfl) (by kernel_rfl)) (ress_cons (v := qb true) (by kernel_rfl) (ress_nil))) (by kernel_rfl) rfl (by kernel_rfl)))))))


-- 40: vedette/event.Fold
def F40_e : ((List Thing) × Bool) → PV × List Ob := fun r => (.tup [.one (vw Thing.cod r.1), .one (lb r.2)], [])
def F40_j16 (n : Nat) (a0 : (List Thing)) (l14 : (List Thing)) (b15 : Bool) : Option ((List Thing) × Bool) :=
    if !(b15) then
      (cloneL a0).bind fun (l17 : (List Thing)) =>
      some (l17, false)
    else
      some (l14, true)
theorem F40_j16_ok (n : Nat) (a0 : (List Thing)) (l14 : (List Thing)) (b15 : Bool) : Sim Try.prog D (n + 8) pc40_c36 [(0, .one (vw Thing.cod a0)), (6, .one (vw Thing.cod l14)), (7, qb b15)] [] (F40_j16 n a0 l14 b15) (QF false pc40_r 0 F40_e) := by
    unfold F40_j16
    refine Sim.seq (.seq (.rg [(0, .one (vw Thing.cod a0)), (6, .one (vw Thing.cod l14)), (7, qb b15)] [] (.rd 2 [(28, qb (!(b15))), (27, qb b15)] [] (.thenN (.cond (!(b15)) (by kernel_rfl) ?_ ?_)))))
    · refine Sim.st 1 [(29, .one (vw Thing.cod a0))] [] (.bind (og := cloneL a0) ⟨some 30, POp.gcall false true [300000, 300001, 300002, 300003, 300004, 300005, 300006, 300007] [[(0, 11)]] 78 [Operand.tmp 29], none, []⟩ (fun l17 => [(30, .one (vw Thing.cod l17))]) (fun l17 => []) (by kernel_rfl) (fun l17 hr => pOp_eff (by kernel_rfl) (by kernel_rfl) (eff_gcall (ks := []) (rks := []) (new := [300000]) (ARGS := [.one (vw Thing.cod a0)]) (args1 := [.one (vw Thing.cod a0)]) (args2 := [.one (vw Thing.cod a0)]) (os := []) (os' := [.arr 28 Thing.cod.sz 0 (l17).length (getOf Thing.cod l17)]) (os1 := [.arr 28 Thing.cod.sz 0 (l17).length (getOf Thing.cod l17)]) (res := .one (.osl 1000000 0 0 (l17).length)) (res1 := .one (vw Thing.cod l17)) (r := .one (vw Thing.cod l17)) (N := []) (by kernel_rfl) (readA_ow (readA_keep (by kernel_rfl) (readA_nil))) (by kernel_rfl) (by kernel_rfl) (by kernel_rfl) (by kernel_rfl) (D_b78 (l := a0) (r := l17) hr) (by kernel_rfl) (by kernel_rfl) (by kernel_rfl) (frz_new (c := Thing.cod) 28 l17) (by kernel_rfl) (by kernel_rfl) (by kernel_rfl))) (fun l17 => ?_))
      exact SimI.rd 2 [(5, qb false), (4, .one (vw Thing.cod l17))] [] (.thenN (.ret (.thenR .fn)))
    · exact Sim.skip (.thenN (.sr 3 [(5, qb true), (4, .one (vw Thing.cod l14)), (31, .one (vw Thing.cod l14))] [] (.ret .fn)))

def F40_l11 (n : Nat) (a0 : (List Thing)) (a1 : (List Event)) : Nat → (List Thing) → Bool → Int → Option ((List Thing) × Bool)
  | 0, _, _, _ => none
  | m + 1, l8, b9, i10 =>
    if decide (i10 < ((a1).length : Int)) then
      (ix a1 i10).bind fun (x12 : Event) =>
      (F51 n l8 x12).bind fun (r13 : ((List Thing) × Bool)) =>
      if !(r13.2) then
        F40_j16 n a0 r13.1 r13.2
      else
        (F40_l11 n a0 a1 m) r13.1 r13.2 (IntKind.wrap .i64 (i10 + 1))
    else
      F40_j16 n a0 l8 b9
theorem F40_l11_ok (n : Nat) (a0 : (List Thing)) (a1 : (List Event)) : ∀ (m : Nat) (l8 : (List Thing)) (b9 : Bool) (i10 : Int), SimL Try.prog D (n + 8) m pc40_c22 [(0, .one (vw Thing.cod a0)), (6, .one (vw Thing.cod l8)), (7, qb b9), (12, .one (vw Event.cod a1)), (13, qj ((a1).length : Int)), (14, qj i10)] [] (F40_l11 n a0 a1 m l8 b9 i10) (QB 0 (QT Try.prog D (n + 8) pc40_c36 (QF false pc40_r 0 F40_e))) := by
  intro m_l11
  induction m_l11 with
  | zero => intro l8 b9 i10; exact SimL.zero'  rfl
  | succ m_l11 ih_l11 =>
    intro l8 b9 i10
    refine SimL.succ ?_
    unfold F40_l11
    refine Sim.seq (.rg [(0, .one (vw Thing.cod a0)), (6, .one (vw Thing.cod l8)), (7, qb b9), (12, .one (vw Event.cod a1)), (13, qj ((a1).length : Int)), (14, qj i10)] [] (.rd 1 [(15, qb (decide (i10 < ((a1).length : Int))))] [] (.thenN (.seq (.cond (decide (i10 < ((a1).length : Int))) (by kernel_rfl) ?_ ?_)))))
    · refine Sim.skip (.thenN (.seq (.block (.seq (.region0 (.bind (og := ix a1 i10) ⟨some 16, POp.iaddrS 25 (Operand.tmp 12) (Operand.tmp 14), none, []⟩ (fun x12 => [(16, .one (.eptr (Event.cod.enc x12) 0))]) (fun x12 => []) (by kernel_rfl) (fun x12 hr => pOp_eff (by kernel_rfl) (by kernel_rfl) (eff_idx (c := Event.cod) (l := a1) (k := .i64) (n := i10) (by kernel_rfl) (by kernel_rfl) (by kernel_rfl) hr)) (fun x12 => ?_)))))))
      refine SimI.rd 3 [(9, qp 9 0), (17, .agg (Event.cells x12))] [(9, some (.cells (Event.cells x12))), (9, some (.cells [lj 0, lj 0, lj 0, lj 0, lj 0, lj 0, ls be, lj 0, ls be, lj 0, ls be, lj 0, ls be, lj 0, li .u8 0, lj 0, lj 0, lj 0, ls be, lj 0, ls be, lj 0, ls be, lj 0, ls be]))] (.thenN (.st 2 [(20, .agg (Event.cells x12)), (19, .one (vw Thing.cod l8))] [] (.cl 21 true [[(0, 11)], []] 51 [Operand.tmp 19, Operand.tmp 20] none (fun r13 => .tup [.one (vw Thing.cod r13.1), qb r13.2]) [.one (vw Thing.cod l8), .agg (Event.cells x12)] (F51_ok n l8 x12) (fun r13 => ?_))))
      refine SimI.rd 5 [(7, qb r13.2), (6, .one (vw Thing.cod r13.1)), (23, qb r13.2), (22, .one (vw Thing.cod r13.1)), (18, .tup [.one (vw Thing.cod r13.1), qb r13.2])] [] (.thenN (.sr 2 [(25, qb (!(r13.2))), (24, qb r13.2)] [] (.cond (!(r13.2)) (by kernel_rfl) ?_ ?_)))
      · refine Sim.exit (.blockY rfl (.thenX (.loopX (.blockX (.thenN (.pr [0, 6, 7] [9] [] [(0, .one (vw Thing.cod a0)), (6, .one (vw Thing.cod r13.1)), (7, qb r13.2)] [] ?_))))))
        exact F40_j16_ok n a0 r13.1 r13.2
      · refine Sim.skip (.blockN (.thenN (.region0 (.rd 2 [(14, qj (IntKind.wrap .i64 (i10 + 1))), (26, qj (IntKind.wrap .i64 (i10 + 1)))] [] (.loopN (.pr [0, 6, 7, 12, 13, 14] [9] [] [(0, .one (vw Thing.cod a0)), (6, .one (vw Thing.cod r13.1)), (7, qb r13.2), (12, .one (vw Event.cod a1)), (13, qj ((a1).length : Int)), (14, qj (IntKind.wrap .i64 (i10 + 1)))] [] ?_))))))
        exact ih_l11 r13.1 r13.2 (IntKind.wrap .i64 (i10 + 1))
    · refine Sim.exit (.thenX (.loopX (.blockX (.thenN (.pr [0, 6, 7] [9] [] [(0, .one (vw Thing.cod a0)), (6, .one (vw Thing.cod l8)), (7, qb b9)] [] ?_)))))
      exact F40_j16_ok n a0 l8 b9

def F40 (n : Nat) (a0 : (List Thing)) (a1 : (List Event)) : Option ((List Thing) × Bool) :=
  (cloneL a0).bind fun (l1 : (List Thing)) =>
  F40_l11 n a0 a1 (n + 8) l1 true 0
theorem F40_ok (n : Nat) (a0 : (List Thing)) (a1 : (List Event)) : ∀ r, F40 n a0 a1 = some r → D 40 [.one (vw Thing.cod a0), .one (vw Event.cod a1)] [] = some (F40_e r) := by
  refine fn_to (D := D) (n := n + 8) (nt := 32) (rs := pc40_r) (c := pc40_c41) (L := [(0, .one (vw Thing.cod a0)), (1, .one (vw Event.cod a1))]) (M := []) (k := 0) rfl rfl rfl rfl rfl rfl rfl ?_
  unfold F40
  refine Sim.sr 2 [(5, qb false), (4, .one (lnil))] [] (.scope (.st 1 [(10, .one (vw Thing.cod a0))] [] (.bind (og := cloneL a0) ⟨some 11, POp.gcall false true [300000, 300001, 300002, 300003, 300004, 300005, 300006, 300007] [[(0, 11)]] 78 [Operand.tmp 10], none, []⟩ (fun l1 => [(11, .one (vw Thing.cod l1))]) (fun l1 => []) (by kernel_rfl) (fun l1 hr => pOp_eff (by kernel_rfl) (by kernel_rfl) (eff_gcall (ks := []) (rks := []) (new := [300000]) (ARGS := [.one (vw Thing.cod a0)]) (args1 := [.one (vw Thing.cod a0)]) (args2 := [.one (vw Thing.cod a0)]) (os := []) (os' := [.arr 28 Thing.cod.sz 0 (l1).length (getOf Thing.cod l1)]) (os1 := [.arr 28 Thing.cod.sz 0 (l1).length (getOf Thing.cod l1)]) (res := .one (.osl 1000000 0 0 (l1).length)) (res1 := .one (vw Thing.cod l1)) (r := .one (vw Thing.cod l1)) (N := []) (by kernel_rfl) (readA_ow (readA_keep (by kernel_rfl) (readA_nil))) (by kernel_rfl) (by kernel_rfl) (by kernel_rfl) (by kernel_rfl) (D_b78 (l := a0) (r := l1) hr) (by kernel_rfl) (by kernel_rfl) (by kernel_rfl) (frz_new (c := Thing.cod) 28 l1) (by kernel_rfl) (by kernel_rfl) (by kernel_rfl))) (fun l1 => ?_))))
  refine SimI.rd 2 [(7, qb true), (6, .one (vw Thing.cod l1))] [] (.thenN (.seq (.label (.thenN (.seq (.sr 3 [(14, qj 0), (13, qj ((a1).length : Int)), (12, .one (vw Event.cod a1))] [] (.block (.loop (.pr [0, 6, 7, 12, 13, 14] [9] [] [(0, .one (vw Thing.cod a0)), (6, .one (vw Thing.cod l1)), (7, qb true), (12, .one (vw Event.cod a1)), (13, qj ((a1).length : Int)), (14, qj 0)] [] ?_)))))))))
  exact F40_l11_ok n a0 a1 (n + 8) l1 true 0


-- 9: vedette/vedettelaw16.DiffFolds
def F9_e : Bool → PV × List Ob := fun r => (.one (lb r), [])
def F9_l10 (n : Nat) (a0 : (List Thing)) (a1 : (List Thing)) (a2 : Rect) (a3 : Rect) (r6 : (List Event)) : Nat → Int → Option Bool
  | 0, _ => none
  | m + 1, i9 =>
    if decide (i9 < ((r6).length : Int)) then
      (ix r6 i9).bind fun (x11 : Event) =>
      (F39 n x11).bind fun (r12 : Bool) =>
      if !(r12) then
        some false
      else
        if decide ((0 : Int) < i9) then
          (ix r6 i9).bind fun (x13 : Event) =>
          (ix r6 (IntKind.wrap .i64 (i9 - 1))).bind fun (x14 : Event) =>
          if decide (x13.ID ≤ x14.ID) then
            some false
          else
            (F9_l10 n a0 a1 a2 a3 r6 m) (IntKind.wrap .i64 (i9 + 1))
        else
          (F9_l10 n a0 a1 a2 a3 r6 m) (IntKind.wrap .i64 (i9 + 1))
    else
      (F41 n a0 a2).bind fun (r15 : (List Thing)) =>
      (F40 n r15 r6).bind fun (r16 : ((List Thing) × Bool)) =>
      if r16.2 then
        (F41 n a1 a3).bind fun (r17 : (List Thing)) =>
        (F34 n r16.1 r17).bind fun (r18 : Bool) =>
        if r18 then
          (F38 n a0 a2 a0 a2).bind fun (r19 : (List Event)) =>
          some (((r19).length : Int) == 0)
        else
          some false
      else
        some false
theorem F9_l10_ok (n : Nat) (a0 : (List Thing)) (a1 : (List Thing)) (a2 : Rect) (a3 : Rect) (r6 : (List Event)) : ∀ (m : Nat) (i9 : Int), SimL Try.prog D (n + 8) m pc9_c33 [(0, .one (vw Thing.cod a0)), (1, .one (vw Thing.cod a1)), (6, qp 6 0), (7, qp 7 0), (9, .one (vw Event.cod r6)), (10, qj i9)] [(6, some (.cells (Rect.cells a2))), (7, some (.cells (Rect.cells a3)))] (F9_l10 n a0 a1 a2 a3 r6 m i9) (QB 0 (QT Try.prog D (n + 8) pc9_c41 (QF false pc9_r 0 F9_e))) := by
  intro m_l10
  induction m_l10 with
  | zero => intro i9; exact SimL.zero'  rfl
  | succ m_l10 ih_l10 =>
    intro i9
    refine SimL.succ ?_
    unfold F9_l10
    refine Sim.seq (.seq (.rg [(0, .one (vw Thing.cod a0)), (1, .one (vw Thing.cod a1)), (6, qp 6 0), (7, qp 7 0), (9, .one (vw Event.cod r6)), (10, qj i9)] [(6, some (.cells (Rect.cells a2))), (7, some (.cells (Rect.cells a3)))] (.rd 4 [(41, qb (decide (i9 < ((r6).length : Int)))), (40, qj ((r6).length : Int)), (39, .one (vw Event.cod r6)), (38, qj i9)] [] (.thenN (.cond (decide (i9 < ((r6).length : Int))) (by kernel_rfl) ?_ ?_)))))
    · refine Sim.skip (.thenN (.seq (.block (.st 2 [(45, qj i9), (44, .one (vw Event.cod r6))] [] (.bind (og := ix r6 i9) ⟨some 46, POp.iaddrS 25 (Operand.tmp 44) (Operand.tmp 45), none, [(44, Hint.imm), (45, Hint.imm)]⟩ (fun x11 => [(46, .one (.eptr (Event.cod.enc x11) 0))]) (fun x11 => []) (by kernel_rfl) (fun x11 hr => pOp_eff (by kernel_rfl) (by kernel_rfl) (eff_idx (c := Event.cod) (l := r6) (k := .i64) (n := i9) (by kernel_rfl) (by kernel_rfl) (by kernel_rfl) hr)) (fun x11 => ?_))))))
      refine SimI.rn 1 [(47, .agg (Event.cells x11))] [] (.bind (og := F39 n x11) ⟨some 48, POp.call false [[]] 39 [Operand.tmp 47], none, [(47, Hint.imm)]⟩ (fun r12 => [(48, qb r12)]) (fun r12 => []) (by kernel_rfl) (fun r12 hr => pOp_eff (by kernel_rfl) (by kernel_rfl) (eff_call (ARGS := [.agg (Event.cells x11)]) (by kernel_rfl) (args_clean (by kernel_rfl) args_nil) (F39_ok n x11 r12 hr) (by kernel_rfl))) (fun r12 => ?_))
      refine SimI.rn 2 [(50, qb (!(r12))), (49, qb (!(r12)))] [] (.split 50 (!(r12)) (by kernel_rfl) ?_ ?_)
      · exact SimI.rd 17 [(67, qb true), (66, .tup []), (65, .tup []), (64, .tup []), (63, .tup []), (62, .tup []), (61, .tup []), (60, .tup []), (59, .tup []), (58, .tup []), (57, .tup []), (56, .tup []), (55, .tup []), (54, .tup []), (53, .tup []), (52, .tup []), (51, .tup [])] [] (.thenN (.condT (by kernel_rfl) (.sr 1 [(8, qb false)] [] (.ret (.blockR (.thenR (.loopR (.blockR (.thenR .fn)))))))))
      · refine SimI.rn 3 [(53, qb (decide ((0 : Int) < i9))), (52, qb (decide ((0 : Int) < i9))), (51, qj i9)] [] (.split 53 (decide ((0 : Int) < i9)) (by kernel_rfl) ?_ ?_)
        · refine SimI.rn 2 [(55, qj i9), (54, .one (vw Event.cod r6))] [] (.bind (og := ix r6 i9) ⟨some 56, POp.iaddrS 25 (Operand.tmp 54) (Operand.tmp 55), some (53, true), [(54, Hint.imm), (55, Hint.imm)]⟩ (fun x13 => [(56, .one (.eptr (Event.cod.enc x13) 0))]) (fun x13 => []) (by kernel_rfl) (fun x13 hr => pOp_eff (by kernel_rfl) (by kernel_rfl) (eff_idx (c := Event.cod) (l := r6) (k := .i64) (n := i9) (by kernel_rfl) (by kernel_rfl) (by kernel_rfl) hr)) (fun x13 => ?_))
          refine SimI.rn 5 [(61, qj (IntKind.wrap .i64 (i9 - 1))), (60, qj i9), (59, .one (vw Event.cod r6)), (58, qj x13.ID), (57, .one (.eptr (Event.cod.enc x13) 1))] [] (.bind (og := ix r6 (IntKind.wrap .i64 (i9 - 1))) ⟨some 62, POp.iaddrS 25 (Operand.tmp 59) (Operand.tmp 61), some (53, true), [(59, Hint.imm), (61, Hint.imm)]⟩ (fun x14 => [(62, .one (.eptr (Event.cod.enc x14) 0))]) (fun x14 => []) (by kernel_rfl) (fun x14 hr => pOp_eff (by kernel_rfl) (by kernel_rfl) (eff_idx (c := Event.cod) (l := r6) (k := .i64) (n := IntKind.wrap .i64 (i9 - 1)) (by kernel_rfl) (by kernel_rfl) (by kernel_rfl) hr)) (fun x14 => ?_))
          refine SimI.rd 5 [(67, qb (decide (x13.ID ≤ x14.ID))), (66, qb (decide (x13.ID ≤ x14.ID))), (65, qb (decide (x13.ID ≤ x14.ID))), (64, qj x14.ID), (63, .one (.eptr (Event.cod.enc x14) 1))] [] (.thenN (.cond (decide (x13.ID ≤ x14.ID)) (by kernel_rfl) ?_ ?_))
          · exact Sim.sr 1 [(8, qb false)] [] (.ret (.blockR (.thenR (.loopR (.blockR (.thenR .fn))))))
          · refine Sim.skip (.blockN (.thenN (.region0 (.rd 3 [(10, qj (IntKind.wrap .i64 (i9 + 1))), (43, qj (IntKind.wrap .i64 (i9 + 1))), (42, qj i9)] [] (.loopN (.pr [0, 1, 6, 7, 9, 10] [6, 7] [] [(0, .one (vw Thing.cod a0)), (1, .one (vw Thing.cod a1)), (6, qp 6 0), (7, qp 7 0), (9, .one (vw Event.cod r6)), (10, qj (IntKind.wrap .i64 (i9 + 1)))] [(6, some (.cells (Rect.cells a2))), (7, some (.cells (Rect.cells a3)))] ?_))))))
            exact ih_l10 (IntKind.wrap .i64 (i9 + 1))
        · refine SimI.rd 14 [(67, qb false), (66, qb false), (65, .tup []), (64, .tup []), (63, .tup []), (62, .tup []), (61, .tup []), (60, .tup []), (59, .tup []), (58, .tup []), (57, .tup []), (56, .tup []), (55, .tup []), (54, .tup [])] [] (.thenN (.condF (by kernel_rfl) (.skip (.blockN (.thenN (.region0 (.rd 3 [(10, qj (IntKind.wrap .i64 (i9 + 1))), (43, qj (IntKind.wrap .i64 (i9 + 1))), (42, qj i9)] [] (.loopN (.pr [0, 1, 6, 7, 9, 10] [6, 7] [] [(0, .one (vw Thing.cod a0)), (1, .one (vw Thing.cod a1)), (6, qp 6 0), (7, qp 7 0), (9, .one (vw Event.cod r6)), (10, qj (IntKind.wrap .i64 (i9 + 1)))] [(6, some (.cells (Rect.cells a2))), (7, some (.cells (Rect.cells a3)))] ?_)))))))))
          exact ih_l10 (IntKind.wrap .i64 (i9 + 1))
    · refine Sim.exit (.thenX (.loopX (.blockX (.thenN (.st 2 [(70, .agg (Rect.cells a2)), (69, .one (vw Thing.cod a0))] [] (.cl 71 true [[(0, 11)], []] 41 [Operand.tmp 69, Operand.tmp 70] none (fun r15 => .one (vw Thing.cod r15)) [.one (vw Thing.cod a0), .agg (Rect.cells a2)] (F41_ok n a0 a2) (fun r15 => ?_)))))))
      refine SimI.rn 1 [(72, .one (vw Event.cod r6))] [] (.cl 73 true [[(0, 11)], [(0, 25)]] 40 [Operand.tmp 71, Operand.tmp 72] none (fun r16 => .tup [.one (vw Thing.cod r16.1), qb r16.2]) [.one (vw Thing.cod r15), .one (vw Event.cod r6)] (F40_ok n r15 r6) (fun r16 => ?_))
      refine SimI.rd 5 [(12, qb r16.2), (11, .one (vw Thing.cod r16.1)), (75, qb r16.2), (74, .one (vw Thing.cod r16.1)), (68, .tup [.one (vw Thing.cod r16.1), qb r16.2])] [] (.thenN (.st 2 [(77, qb r16.2), (76, qb r16.2)] [] (.split 77 r16.2 (by kernel_rfl) ?_ ?_)))
      · refine SimI.rn 3 [(80, .agg (Rect.cells a3)), (79, .one (vw Thing.cod a1)), (78, .one (vw Thing.cod r16.1))] [] (.cl 81 true [[(0, 11)], []] 41 [Operand.tmp 79, Operand.tmp 80] (some (77, true)) (fun r17 => .one (vw Thing.cod r17)) [.one (vw Thing.cod a1), .agg (Rect.cells a3)] (F41_ok n a1 a3) (fun r17 => ?_))
        refine SimI.cl 82 true [[(0, 11)], [(0, 11)]] 34 [Operand.tmp 78, Operand.tmp 81] (some (77, true)) (fun r18 => qb r18) [.one (vw Thing.cod r16.1), .one (vw Thing.cod r17)] (F34_ok n r16.1 r17) (fun r18 => ?_)
        refine SimI.rn 2 [(84, qb r18), (83, qb r18)] [] (.split 84 r18 (by kernel_rfl) ?_ ?_)
        · refine SimI.rn 4 [(88, .agg (Rect.cells a2)), (87, .one (vw Thing.cod a0)), (86, .agg (Rect.cells a2)), (85, .one (vw Thing.cod a0))] [] (.cl 89 true [[(0, 11)], [], [(0, 11)], []] 38 [Operand.tmp 85, Operand.tmp 86, Operand.tmp 87, Operand.tmp 88] (some (84, true)) (fun r19 => .one (vw Event.cod r19)) [.one (vw Thing.cod a0), .agg (Rect.cells a2), .one (vw Thing.cod a0), .agg (Rect.cells a2)] (F38_ok n a0 a2 a0 a2) (fun r19 => ?_))
          exact SimI.rd 4 [(8, qb (((r19).length : Int) == 0)), (92, qb (((r19).length : Int) == 0)), (91, qb (((r19).length : Int) == 0)), (90, qj ((r19).length : Int))] [] (.thenN (.ret .fn))
        · exact SimI.rd 9 [(8, qb false), (92, qb false), (91, .tup []), (90, .tup []), (89, .tup []), (88, .tup []), (87, .tup []), (86, .tup []), (85, .tup [])] [] (.thenN (.ret .fn))
      · exact SimI.rd 16 [(8, qb false), (92, qb false), (91, .tup []), (90, .tup []), (89, .tup []), (88, .tup []), (87, .tup []), (86, .tup []), (85, .tup []), (84, qb false), (83, qb false), (82, .tup []), (81, .tup []), (80, .tup []), (79, .tup []), (78, .tup [])] [] (.thenN (.ret .fn))

def F9 (n : Nat) (a0 : (List Thing)) (a1 : (List Thing)) (a2 : Rect) (a3 : Rect) : Option Bool :=
  ((some true)).bind fun (r1 : Bool) =>
  if !(r1) then
    some false
  else
    (F36 n a0).bind fun (r2 : Bool) =>
    if !(r2) then
      some true
    else
      (F36 n a1).bind fun (r3 : Bool) =>
      if !(r3) then
        some true
      else
        (F37 n a0).bind fun (r4 : Bool) =>
        if !(r4) then
          some true
        else
          (F37 n a1).bind fun (r5 : Bool) =>
          if !(r5) then
            some true
          else
            (F38 n a0 a2 a1 a3).bind fun (r6 : (List Event)) =>
            F9_l10 n a0 a1 a2 a3 r6 (n + 8) 0
theorem F9_ok (n : Nat) (a0 : (List Thing)) (a1 : (List Thing)) (a2 : Rect) (a3 : Rect) : ∀ r, F9 n a0 a1 a2 a3 = some r → D 9 [.one (vw Thing.cod a0), .one (vw Thing.cod a1), .agg (Rect.cells a2), .agg (Rect.cells a3)] [] = some (F9_e r) := by
  refine fn_to (D := D) (n := n + 8) (nt := 93) (rs := pc9_r) (c := pc9_c46) (L := [(0, .one (vw Thing.cod a0)), (1, .one (vw Thing.cod a1)), (2, .agg (Rect.cells a2)), (3, .agg (Rect.cells a3))]) (M := []) (k := 0) rfl rfl rfl rfl rfl rfl rfl ?_
  unfold F9
  refine Sim.sr 3 [(8, qb false), (7, qp 7 0), (6, qp 6 0)] [(7, some (.cells (Rect.cells a3))), (6, some (.cells (Rect.cells a2)))] (.seq (.seq (.region0 (.cl 13 true [] 35 [] none (fun r1 => qb r1) [] (F35_ok n) (fun r1 => ?_)))))
  refine SimI.rd 1 [(14, qb (!(r1)))] [] (.thenN (.cond (!(r1)) (by kernel_rfl) ?_ ?_))
  · exact Sim.sr 1 [(8, qb false)] [] (.ret (.thenR .fn))
  · refine Sim.skip (.thenN (.seq (.st 1 [(15, .one (vw Thing.cod a0))] [] (.cl 16 true [[(0, 11)]] 36 [Operand.tmp 15] none (fun r2 => qb r2) [.one (vw Thing.cod a0)] (F36_ok n a0) (fun r2 => ?_)))))
    refine SimI.rn 2 [(18, qb (!(r2))), (17, qb (!(r2)))] [] (.split 18 (!(r2)) (by kernel_rfl) ?_ ?_)
    · exact SimI.rd 14 [(32, qb true), (31, .tup []), (30, .tup []), (29, .tup []), (28, qb true), (27, qb true), (26, .tup []), (25, .tup []), (24, .tup []), (23, qb true), (22, qb true), (21, .tup []), (20, .tup []), (19, .tup [])] [] (.thenN (.condT (by kernel_rfl) (.sr 1 [(8, qb true)] [] (.ret (.thenR .fn)))))
    · refine SimI.rn 1 [(19, .one (vw Thing.cod a1))] [] (.cl 20 true [[(0, 11)]] 36 [Operand.tmp 19] (some (18, false)) (fun r3 => qb r3) [.one (vw Thing.cod a1)] (F36_ok n a1) (fun r3 => ?_))
      refine SimI.rn 3 [(23, qb (!(r3))), (22, qb (!(r3))), (21, qb (!(r3)))] [] (.split 23 (!(r3)) (by kernel_rfl) ?_ ?_)
      · exact SimI.rd 9 [(32, qb true), (31, .tup []), (30, .tup []), (29, .tup []), (28, qb true), (27, qb true), (26, .tup []), (25, .tup []), (24, .tup [])] [] (.thenN (.condT (by kernel_rfl) (.sr 1 [(8, qb true)] [] (.ret (.thenR .fn)))))
      · refine SimI.rn 1 [(24, .one (vw Thing.cod a0))] [] (.cl 25 true [[(0, 11)]] 37 [Operand.tmp 24] (some (23, false)) (fun r4 => qb r4) [.one (vw Thing.cod a0)] (F37_ok n a0) (fun r4 => ?_))
        refine SimI.rn 3 [(28, qb (!(r4))), (27, qb (!(r4))), (26, qb (!(r4)))] [] (.split 28 (!(r4)) (by kernel_rfl) ?_ ?_)
        · exact SimI.rd 4 [(32, qb true), (31, .tup []), (30, .tup []), (29, .tup [])] [] (.thenN (.condT (by kernel_rfl) (.sr 1 [(8, qb true)] [] (.ret (.thenR .fn)))))
        · refine SimI.rn 1 [(29, .one (vw Thing.cod a1))] [] (.cl 30 true [[(0, 11)]] 37 [Operand.tmp 29] (some (28, false)) (fun r5 => qb r5) [.one (vw Thing.cod a1)] (F37_ok n a1) (fun r5 => ?_))
          refine SimI.rd 2 [(32, qb (!(r5))), (31, qb (!(r5)))] [] (.thenN (.cond (!(r5)) (by kernel_rfl) ?_ ?_))
          · exact Sim.sr 1 [(8, qb true)] [] (.ret (.thenR .fn))
          · refine Sim.skip (.thenN (.st 4 [(36, .agg (Rect.cells a3)), (35, .one (vw Thing.cod a1)), (34, .agg (Rect.cells a2)), (33, .one (vw Thing.cod a0))] [] (.cl 37 true [[(0, 11)], [], [(0, 11)], []] 38 [Operand.tmp 33, Operand.tmp 34, Operand.tmp 35, Operand.tmp 36] none (fun r6 => .one (vw Event.cod r6)) [.one (vw Thing.cod a0), .agg (Rect.cells a2), .one (vw Thing.cod a1), .agg (Rect.cells a3)] (F38_ok n a0 a2 a1 a3) (fun r6 => ?_))))
            refine SimI.rd 1 [(9, .one (vw Event.cod r6))] [] (.thenN (.seq (.sr 1 [(10, qj 0)] [] (.block (.loop (.pr [0, 1, 6, 7, 9, 10] [6, 7] [] [(0, .one (vw Thing.cod a0)), (1, .one (vw Thing.cod a1)), (6, qp 6 0), (7, qp 7 0), (9, .one (vw Event.cod r6)), (10, qj 0)] [(6, some (.cells (Rect.cells a2))), (7, some (.cells (Rect.cells a3)))] ?_))))))
            exact F9_l10_ok n a0 a1 a2 a3 r6 (n + 8) 0


end Go.Proofs.Ytobeamaaifgllaa
