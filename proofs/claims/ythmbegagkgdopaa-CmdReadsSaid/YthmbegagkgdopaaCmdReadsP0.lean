/-
  Functions of the program as functions of Lean. No condition.
-/
import Derived.Test.YthmbegagkgdopaaCmdReadsE
namespace Go.Proofs.Ythmbegagkgdopaa
open Go Go.Rx
set_option maxRecDepth 100000
set_option linter.unusedVariables false
set_option linter.unusedSimpArgs false
set_option linter.unnecessarySimpa false
-- 26: vedette/fields.IsField
def F26_e : Bool → PV × List Ob := fun r => (.one (lb r), [])
def F26 (n : Nat) (a0 : Field) : Option Bool :=
  if a0.N == 0 then
    some (decide ((a0.Text.size : Int) ≤ 12))
  else
    if a0.Text.toList == ByteArray.empty.toList then
      some (decide ((a0.Text.size : Int) ≤ 12))
    else
      some false
theorem F26_ok (n : Nat) (a0 : Field) : ∀ r, F26 n a0 = some r → D 26 [.agg [li .i64 a0.N, ls a0.Text]] [] = some (F26_e r) := by
  refine fn_to (D := D) (n := n + 8) (nt := 17) (rs := pc26_r) (c := p26c5) (L := [(0, .agg [lj a0.N, ls a0.Text])]) (M := []) (k := 0) rfl rfl rfl rfl rfl rfl rfl ?_
  unfold F26
  refine Sim.sr 2 [(2, qb false), (1, qp 1 0)] [(1, some (.cells [lj a0.N, ls a0.Text]))] (.st 4 [(6, qb (a0.N == 0)), (5, qb (a0.N == 0)), (4, qj a0.N), (3, qp 1 0)] [] (.split 6 (a0.N == 0) (by kernel_rfl) ?_ ?_))
  · exact SimI.rd 11 [(2, qb (decide ((a0.Text.size : Int) ≤ 12))), (16, qb (decide ((a0.Text.size : Int) ≤ 12))), (15, qb (decide ((a0.Text.size : Int) ≤ 12))), (14, qj (a0.Text.size : Int)), (13, qs a0.Text), (12, qp 1 1), (11, qb true), (10, qb true), (9, tz), (8, tz), (7, tz)] [] (.thenN (.ret .fn))
  · refine SimI.rn 5 (w7 a0) [] (.split 11 (a0.Text.toList == be.toList) (by kernel_rfl) ?_ ?_)
    · exact SimI.rd 6 (w8 a0) [] (.thenN (.ret .fn))
    · exact SimI.rd 6 [(2, qb false), (16, qb false), (15, tz), (14, tz), (13, tz), (12, tz)] [] (.thenN (.ret .fn))


-- 58: vedette/cmd.core
def F58_e : Command → PV × List Ob := fun r => (.agg (Command.cells r), [])
def F58 (n : Nat) (a0 : Command) : Option Command :=
  if a0.Kind == 1 then
    some (Command.mk a0.Kind 0 0 0 a0.At a0.F (Field.mk 0 ByteArray.empty) a0.Client a0.Session (Rect.mk 0 0 0 0))
  else
    if a0.Kind == 2 then
      some (Command.mk a0.Kind a0.ID 0 0 a0.At (A4.mk (Field.mk 0 ByteArray.empty) (Field.mk 0 ByteArray.empty) (Field.mk 0 ByteArray.empty) (Field.mk 0 ByteArray.empty)) (Field.mk 0 ByteArray.empty) a0.Client a0.Session (Rect.mk 0 0 0 0))
    else
      if a0.Kind == 3 then
        some (Command.mk a0.Kind a0.ID a0.Which 0 (Point.mk 0 0) (A4.mk (Field.mk 0 ByteArray.empty) (Field.mk 0 ByteArray.empty) (Field.mk 0 ByteArray.empty) (Field.mk 0 ByteArray.empty)) a0.Value a0.Client a0.Session (Rect.mk 0 0 0 0))
      else
        if a0.Kind == 4 then
          some (Command.mk a0.Kind a0.ID 0 0 (Point.mk 0 0) (A4.mk (Field.mk 0 ByteArray.empty) (Field.mk 0 ByteArray.empty) (Field.mk 0 ByteArray.empty) (Field.mk 0 ByteArray.empty)) (Field.mk 0 ByteArray.empty) a0.Client a0.Session (Rect.mk 0 0 0 0))
        else
          if a0.Kind == 5 then
            some (Command.mk a0.Kind 0 a0.Which a0.To (Point.mk 0 0) (A4.mk (Field.mk 0 ByteArray.empty) (Field.mk 0 ByteArray.empty) (Field.mk 0 ByteArray.empty) (Field.mk 0 ByteArray.empty)) (Field.mk 0 ByteArray.empty) a0.Client a0.Session (Rect.mk 0 0 0 0))
          else
            if a0.Kind == 6 then
              if a0.Kind == 6 then
                some (Command.mk a0.Kind 0 0 0 (Point.mk 0 0) (A4.mk (Field.mk 0 ByteArray.empty) (Field.mk 0 ByteArray.empty) (Field.mk 0 ByteArray.empty) (Field.mk 0 ByteArray.empty)) (Field.mk 0 ByteArray.empty) a0.Client a0.Session a0.Rect)
              else
                some (Command.mk a0.Kind 0 0 0 (Point.mk 0 0) (A4.mk (Field.mk 0 ByteArray.empty) (Field.mk 0 ByteArray.empty) (Field.mk 0 ByteArray.empty) (Field.mk 0 ByteArray.empty)) (Field.mk 0 ByteArray.empty) a0.Client a0.Session (Rect.mk 0 0 0 0))
            else
              if a0.Kind == 7 then
                some (Command.mk a0.Kind 0 0 0 (Point.mk 0 0) (A4.mk (Field.mk 0 ByteArray.empty) (Field.mk 0 ByteArray.empty) (Field.mk 0 ByteArray.empty) (Field.mk 0 ByteArray.empty)) (Field.mk 0 ByteArray.empty) a0.Client a0.Session a0.Rect)
              else
                some (Command.mk a0.Kind 0 0 0 (Point.mk 0 0) (A4.mk (Field.mk 0 ByteArray.empty) (Field.mk 0 ByteArray.empty) (Field.mk 0 ByteArray.empty) (Field.mk 0 ByteArray.empty)) (Field.mk 0 ByteArray.empty) a0.Client a0.Session (Rect.mk 0 0 0 0))
theorem F58_ok (n : Nat) (a0 : Command) : ∀ r, F58 n a0 = some r → D 58 [.agg (Command.cells a0)] [] = some (F58_e r) := by
  refine fn_to (D := D) (n := n + 8) (nt := 60) (rs := pc58_r) (c := p58c40) (L := [(0, .agg (Command.cells a0))]) (M := []) (k := 0) rfl rfl rfl rfl rfl rfl rfl ?_
  unfold F58
  refine Sim.sr 2 [(2, qp 2 0), (1, qp 1 0)] [(2, some (.cells [lj 0, lj 0, lj 0, lj 0, lj 0, lj 0, lj 0, ls be, lj 0, ls be, lj 0, ls be, lj 0, ls be, lj 0, ls be, lj 0, lj 0, lj 0, lj 0, lj 0, lj 0])), (1, some (.cells (Command.cells a0)))] (.sr 9 [(3, qp 3 0), (10, .agg (w0 a0)), (9, qj a0.Session), (8, qp 1 17), (7, qj a0.Client), (6, qp 1 16), (5, qj a0.Kind), (4, qp 1 0)] [(3, some (.cells (w0 a0))), (3, some (.cells [lj 0, lj 0, lj 0, lj 0, lj 0, lj 0, lj 0, ls be, lj 0, ls be, lj 0, ls be, lj 0, ls be, lj 0, ls be, lj 0, lj 0, lj 0, lj 0, lj 0, lj 0]))] (.seq (.sr 2 [(12, qj a0.Kind), (11, qp 1 0)] [] (.block (.sr 2 [(13, qb (a0.Kind == 1)), (14, qb (a0.Kind == 1))] [] (.cond (a0.Kind == 1) (by kernel_rfl) ?_ ?_))))))
  · exact Sim.region0 (.rd 8 [(20, qp 3 6), (19, qp 3 4), (18, .agg (A4_Field.cells a0.F)), (17, qp 1 6), (16, .agg [lj a0.At.X, lj a0.At.Y]), (15, qp 1 4)] [(3, some (.cells [lj a0.Kind, lj 0, lj 0, lj 0, lj a0.At.X, lj a0.At.Y, lj a0.F.a0.N, ls a0.F.a0.Text, lj a0.F.a1.N, ls a0.F.a1.Text, lj a0.F.a2.N, ls a0.F.a2.Text, lj a0.F.a3.N, ls a0.F.a3.Text, lj 0, ls be, lj a0.Client, lj a0.Session, lj 0, lj 0, lj 0, lj 0])), (3, some (.cells (w9 a0)))] (.blockN (.thenN (.sr 2 [(59, .agg [lj a0.Kind, lj 0, lj 0, lj 0, lj a0.At.X, lj a0.At.Y, lj a0.F.a0.N, ls a0.F.a0.Text, lj a0.F.a1.N, ls a0.F.a1.Text, lj a0.F.a2.N, ls a0.F.a2.Text, lj a0.F.a3.N, ls a0.F.a3.Text, lj 0, ls be, lj a0.Client, lj a0.Session, lj 0, lj 0, lj 0, lj 0])] [(2, some (.cells [lj a0.Kind, lj 0, lj 0, lj 0, lj a0.At.X, lj a0.At.Y, lj a0.F.a0.N, ls a0.F.a0.Text, lj a0.F.a1.N, ls a0.F.a1.Text, lj a0.F.a2.N, ls a0.F.a2.Text, lj a0.F.a3.N, ls a0.F.a3.Text, lj 0, ls be, lj a0.Client, lj a0.Session, lj 0, lj 0, lj 0, lj 0]))] (.ret .fn)))))
  · refine Sim.sr 2 [(21, qb (a0.Kind == 2)), (22, qb (a0.Kind == 2))] [] (.cond (a0.Kind == 2) (by kernel_rfl) ?_ ?_)
    · exact Sim.region0 (.rd 8 [(28, qp 3 4), (27, qp 3 1), (26, .agg [lj a0.At.X, lj a0.At.Y]), (25, qp 1 4), (24, qj a0.ID), (23, qp 1 1)] [(3, some (.cells (w3 a0))), (3, some (.cells (w2 a0)))] (.blockN (.thenN (.sr 2 [(59, .agg (w3 a0))] [(2, some (.cells (w3 a0)))] (.ret .fn)))))
    · refine Sim.sr 2 [(29, qb (a0.Kind == 3)), (30, qb (a0.Kind == 3))] [] (.cond (a0.Kind == 3) (by kernel_rfl) ?_ ?_)
      · exact Sim.region0 (.rd 12 [(39, qp 3 14), (38, qp 3 2), (37, qp 3 1), (36, .agg [lj a0.Value.N, ls a0.Value.Text]), (35, qp 1 14), (34, qj a0.Which), (33, qp 1 2), (32, qj a0.ID), (31, qp 1 1)] [(3, some (.cells (w4 a0))), (3, some (.cells (w10 a0))), (3, some (.cells (w2 a0)))] (.blockN (.thenN (.sr 2 [(59, .agg (w4 a0))] [(2, some (.cells (w4 a0)))] (.ret .fn)))))
      · refine Sim.sr 2 [(40, qb (a0.Kind == 4)), (41, qb (a0.Kind == 4))] [] (.cond (a0.Kind == 4) (by kernel_rfl) ?_ ?_)
        · exact Sim.region0 (.rd 4 [(44, qp 3 1), (43, qj a0.ID), (42, qp 1 1)] [(3, some (.cells (w2 a0)))] (.blockN (.thenN (.sr 2 [(59, .agg (w2 a0))] [(2, some (.cells (w2 a0)))] (.ret .fn)))))
        · refine Sim.sr 2 [(45, qb (a0.Kind == 5)), (46, qb (a0.Kind == 5))] [] (.cond (a0.Kind == 5) (by kernel_rfl) ?_ ?_)
          · exact Sim.region0 (.rd 8 (w11 a0) [(3, some (.cells (w5 a0))), (3, some (.cells (w12 a0)))] (.blockN (.thenN (.sr 2 [(59, .agg (w5 a0))] [(2, some (.cells (w5 a0)))] (.ret .fn)))))
          · refine Sim.seq (.sr 2 [(53, qb (a0.Kind == 6)), (54, qb (a0.Kind == 6))] [] (.cond (a0.Kind == 6) (by kernel_rfl) ?_ ?_))
            · refine Sim.skip (.thenN (.cond (a0.Kind == 6) (by kernel_rfl) ?_ ?_))
              · exact Sim.region0 (.rd 4 (w6 a0) [(3, some (.cells (w1 a0)))] (.blockN (.thenN (.sr 2 [(59, .agg (w1 a0))] [(2, some (.cells (w1 a0)))] (.ret .fn)))))
              · exact Sim.skip (.blockN (.thenN (.sr 2 [(59, .agg (w0 a0))] [(2, some (.cells (w0 a0)))] (.ret .fn))))
            · refine Sim.region0 (.rd 2 [(53, qb (a0.Kind == 7)), (55, qb (a0.Kind == 7))] [] (.thenN (.cond (a0.Kind == 7) (by kernel_rfl) ?_ ?_)))
              · exact Sim.region0 (.rd 4 (w6 a0) [(3, some (.cells (w1 a0)))] (.blockN (.thenN (.sr 2 [(59, .agg (w1 a0))] [(2, some (.cells (w1 a0)))] (.ret .fn)))))
              · exact Sim.skip (.blockN (.thenN (.sr 2 [(59, .agg (w0 a0))] [(2, some (.cells (w0 a0)))] (.ret .fn))))


-- 59: vedette/cmd.near
def F59_e : Bool → PV × List Ob := fun r => (.one (lb r), [])
def F59_l4 (n : Nat) (a0 : (List Int)) : Nat → Int → Option Bool
  | 0, _ => none
  | m + 1, i3 =>
    if decide (i3 < ((a0).length : Int)) then
      (ix a0 i3).bind fun (x5 : Int) =>
      if decide (((-1000) : Int) ≤ x5) then
        if decide (x5 ≤ 1000) then
          (F59_l4 n a0 m) (IntKind.wrap .i64 (i3 + 1))
        else
          some false
      else
        some false
    else
      some true
theorem F59_l4_ok (n : Nat) (a0 : (List Int)) : ∀ (m : Nat) (i3 : Int), SimL Try.prog D (n + 8) m p59c23 [(5, .one (vw (codI .i64) a0)), (6, qj ((a0).length : Int)), (7, qj i3)] [] (F59_l4 n a0 m i3) (QB 0 (QT Try.prog D (n + 8) p59c29 (QF false pc59_r 0 F59_e))) := by
  intro m_l4
  induction m_l4 with
  | zero => intro i3; exact SimL.zero'  rfl
  | succ m_l4 ih_l4 =>
    intro i3
    refine SimL.succ ?_
    unfold F59_l4
    refine Sim.seq (.rg [(5, .one (vw (codI .i64) a0)), (6, qj ((a0).length : Int)), (7, qj i3)] [] (.rd 1 [(8, qb (decide (i3 < ((a0).length : Int))))] [] (.thenN (.seq (.cond (decide (i3 < ((a0).length : Int))) (by kernel_rfl) ?_ ?_)))))
    · refine Sim.skip (.thenN (.seq (.block (.seq (.region0 (.bind (og := ix a0 i3) ⟨some 9, POp.iaddrS 1 (Operand.tmp 5) (Operand.tmp 7), none, []⟩ (fun x5 => [(9, .one (.eptr ((codI .i64).enc x5) 0))]) (fun x5 => []) (by kernel_rfl) (fun x5 hr => pOp_eff (by kernel_rfl) (by kernel_rfl) (eff_idx (c := (codI .i64)) (l := a0) (k := .i64) (n := i3) (by kernel_rfl) (by kernel_rfl) (by kernel_rfl) hr)) (fun x5 => ?_)))))))
      refine SimI.rd 2 [(4, qj x5), (10, qj x5)] [] (.thenN (.seq (.st 3 [(13, qb (decide (((-1000) : Int) ≤ x5))), (12, qb (decide (((-1000) : Int) ≤ x5))), (11, qj x5)] [] (.split 13 (decide (((-1000) : Int) ≤ x5)) (by kernel_rfl) ?_ ?_))))
      · refine SimI.rd 3 [(16, qb (decide (x5 ≤ 1000))), (15, qb (decide (x5 ≤ 1000))), (14, qj x5)] [] (.thenN (.cond (decide (x5 ≤ 1000)) (by kernel_rfl) ?_ ?_))
        · refine Sim.exit (.thenX (.blockX (.thenN (.region0 (.rd 2 [(7, qj (iw .i64 (i3 + 1))), (17, qj (iw .i64 (i3 + 1)))] [] (.loopN (.pr [5, 6, 7] [] [] [(5, .one (vw (codI .i64) a0)), (6, qj ((a0).length : Int)), (7, qj (iw .i64 (i3 + 1)))] [] ?_)))))))
          exact ih_l4 (iw .i64 (i3 + 1))
        · exact Sim.skip (.thenN (.sr 1 [(2, qb false)] [] (.ret (.blockR (.thenR (.loopR (.blockR (.thenR .fn))))))))
      · exact SimI.rd 3 [(16, qb false), (15, tz), (14, tz)] [] (.thenN (.condF (by kernel_rfl) (.skip (.thenN (.sr 1 [(2, qb false)] [] (.ret (.blockR (.thenR (.loopR (.blockR (.thenR .fn)))))))))))
    · exact Sim.exit (.thenX (.loopX (.blockX (.thenN (.sr 1 [(2, qb true)] [] (.ret .fn))))))

def F59 (n : Nat) (a0 : (List Int)) : Option Bool :=
  F59_l4 n a0 (n + 8) 0
theorem F59_ok (n : Nat) (a0 : (List Int)) : ∀ r, F59 n a0 = some r → D 59 [.one (vw (codI .i64) a0)] [] = some (F59_e r) := by
  refine fn_to (D := D) (n := n + 8) (nt := 18) (rs := pc59_r) (c := p59c33) (L := [(0, .one (vw (codI .i64) a0))]) (M := []) (k := 0) rfl rfl rfl rfl rfl rfl rfl ?_
  unfold F59
  refine Sim.sr 1 [(2, qb false)] [] (.scope (.seq (.label (.thenN (.seq (.sr 3 [(7, qj 0), (6, qj ((a0).length : Int)), (5, .one (vw (codI .i64) a0))] [] (.block (.loop (.pr [5, 6, 7] [] [] [(5, .one (vw (codI .i64) a0)), (6, qj ((a0).length : Int)), (7, qj 0)] [] ?_)))))))))
  exact F59_l4_ok n a0 (n + 8) 0


-- 35: vedette/cmd.Is
def F35_e : Bool → PV × List Ob := fun r => (.one (lb r), [])
def F35_j12 (n : Nat) (a0 : Command) (b6 : Bool) (b8 : Bool) (b11 : Bool) : Option Bool :=
    if b6 then
      if b8 then
        if b11 then
          (F59 n [a0.At.X, a0.At.Y, a0.Rect.X0, a0.Rect.Y0, a0.Rect.X1, a0.Rect.Y1]).bind fun (r13 : Bool) =>
          some r13
        else
          some false
      else
        some false
    else
      some false
theorem F35_j12_ok (n : Nat) (a0 : Command) (b6 : Bool) (b8 : Bool) (b11 : Bool) : Sim Try.prog D (n + 8) p35c29 [(1, qp 1 0), (5, qb b6), (6, qb b8), (7, qb b11)] [(1, some (.cells (Command.cells a0)))] (F35_j12 n a0 b6 b8 b11) (QF false pc35_r 0 F35_e) := by
    unfold F35_j12
    refine Sim.seq (.rg [(1, qp 1 0), (5, qb b6), (6, qb b8), (7, qb b11)] [(1, some (.cells (Command.cells a0)))] (.rn 2 [(83, qb b6), (82, qb b6)] [] (.split 83 b6 (by kernel_rfl) ?_ ?_)))
    · refine SimI.rn 3 [(86, qb b8), (85, qb b8), (84, qb b8)] [] (.split 86 b8 (by kernel_rfl) ?_ ?_)
      · refine SimI.rn 3 [(89, qb b11), (88, qb b11), (87, qb b11)] [] (.split 89 b11 (by kernel_rfl) ?_ ?_)
        · refine SimI.rn 19 [(108, .one (vw (codI .i64) [a0.At.X, a0.At.Y, a0.Rect.X0, a0.Rect.Y0, a0.Rect.X1, a0.Rect.Y1])), (107, qj a0.Rect.Y1), (106, qp 1 21), (105, qp 1 18), (104, qj a0.Rect.X1), (103, qp 1 20), (102, qp 1 18), (101, qj a0.Rect.Y0), (100, qp 1 19), (99, qp 1 18), (98, qj a0.Rect.X0), (97, qp 1 18), (96, qp 1 18), (95, qj a0.At.Y), (94, qp 1 5), (93, qp 1 4), (92, qj a0.At.X), (91, qp 1 4), (90, qp 1 4)] [] (.cl 109 true [[(0, 1)]] 59 [108] (some (89, true)) (fun r13 => qb r13) [.one (vw (codI .i64) [a0.At.X, a0.At.Y, a0.Rect.X0, a0.Rect.Y0, a0.Rect.X1, a0.Rect.Y1])] (F59_ok n [a0.At.X, a0.At.Y, a0.Rect.X0, a0.Rect.Y0, a0.Rect.X1, a0.Rect.Y1]) (fun r13 => ?_))
          exact SimI.rd 2 [(2, qb r13), (110, qb r13)] [] (.thenN (.ret .fn))
        · exact SimI.rd 22 [(2, qb false), (110, qb false), (109, tz), (108, tz), (107, tz), (106, tz), (105, tz), (104, tz), (103, tz), (102, tz), (101, tz), (100, tz), (99, tz), (98, tz), (97, tz), (96, tz), (95, tz), (94, tz), (93, tz), (92, tz), (91, tz), (90, tz)] [] (.thenN (.ret .fn))
      · exact SimI.rd 25 [(2, qb false), (110, qb false), (109, tz), (108, tz), (107, tz), (106, tz), (105, tz), (104, tz), (103, tz), (102, tz), (101, tz), (100, tz), (99, tz), (98, tz), (97, tz), (96, tz), (95, tz), (94, tz), (93, tz), (92, tz), (91, tz), (90, tz), (89, qb false), (88, qb false), (87, tz)] [] (.thenN (.ret .fn))
    · exact SimI.rd 28 [(2, qb false), (110, qb false), (109, tz), (108, tz), (107, tz), (106, tz), (105, tz), (104, tz), (103, tz), (102, tz), (101, tz), (100, tz), (99, tz), (98, tz), (97, tz), (96, tz), (95, tz), (94, tz), (93, tz), (92, tz), (91, tz), (90, tz), (89, qb false), (88, qb false), (87, tz), (86, qb false), (85, qb false), (84, tz)] [] (.thenN (.ret .fn))

def F35_j9 (n : Nat) (a0 : Command) (b6 : Bool) (b8 : Bool) : Option Bool :=
    if decide ((0 : Int) ≤ a0.ID) then
      if decide (a0.ID ≤ 1000000) then
        if decide (((-1) : Int) ≤ a0.Which) then
          if decide (a0.Which ≤ 100) then
            if decide (((-1) : Int) ≤ a0.To) then
              if decide (a0.To ≤ 100) then
                (F26 n a0.Value).bind fun (r10 : Bool) =>
                F35_j12 n a0 b6 b8 r10
              else
                F35_j12 n a0 b6 b8 false
            else
              F35_j12 n a0 b6 b8 false
          else
            F35_j12 n a0 b6 b8 false
        else
          F35_j12 n a0 b6 b8 false
      else
        F35_j12 n a0 b6 b8 false
    else
      F35_j12 n a0 b6 b8 false
theorem F35_j9_ok (n : Nat) (a0 : Command) (b6 : Bool) (b8 : Bool) : Sim Try.prog D (n + 8) p35c30 [(1, qp 1 0), (5, qb b6), (6, qb b8)] [(1, some (.cells (Command.cells a0)))] (F35_j9 n a0 b6 b8) (QF false pc35_r 0 F35_e) := by
    unfold F35_j9
    refine Sim.seq (.rg [(1, qp 1 0), (5, qb b6), (6, qb b8)] [(1, some (.cells (Command.cells a0)))] (.rn 4 [(52, qb (decide ((0 : Int) ≤ a0.ID))), (51, qb (decide ((0 : Int) ≤ a0.ID))), (50, qj a0.ID), (49, qp 1 1)] [] (.split 52 (decide ((0 : Int) ≤ a0.ID)) (by kernel_rfl) ?_ ?_)))
    · refine SimI.rn 5 [(57, qb (decide (a0.ID ≤ 1000000))), (56, qb (decide (a0.ID ≤ 1000000))), (55, qb (decide (a0.ID ≤ 1000000))), (54, qj a0.ID), (53, qp 1 1)] [] (.split 57 (decide (a0.ID ≤ 1000000)) (by kernel_rfl) ?_ ?_)
      · refine SimI.rn 5 [(62, qb (decide (((-1) : Int) ≤ a0.Which))), (61, qb (decide (((-1) : Int) ≤ a0.Which))), (60, qb (decide (((-1) : Int) ≤ a0.Which))), (59, qj a0.Which), (58, qp 1 2)] [] (.split 62 (decide (((-1) : Int) ≤ a0.Which)) (by kernel_rfl) ?_ ?_)
        · refine SimI.rn 5 [(67, qb (decide (a0.Which ≤ 100))), (66, qb (decide (a0.Which ≤ 100))), (65, qb (decide (a0.Which ≤ 100))), (64, qj a0.Which), (63, qp 1 2)] [] (.split 67 (decide (a0.Which ≤ 100)) (by kernel_rfl) ?_ ?_)
          · refine SimI.rn 5 [(72, qb (decide (((-1) : Int) ≤ a0.To))), (71, qb (decide (((-1) : Int) ≤ a0.To))), (70, qb (decide (((-1) : Int) ≤ a0.To))), (69, qj a0.To), (68, qp 1 3)] [] (.split 72 (decide (((-1) : Int) ≤ a0.To)) (by kernel_rfl) ?_ ?_)
            · refine SimI.rn 5 [(77, qb (decide (a0.To ≤ 100))), (76, qb (decide (a0.To ≤ 100))), (75, qb (decide (a0.To ≤ 100))), (74, qj a0.To), (73, qp 1 3)] [] (.split 77 (decide (a0.To ≤ 100)) (by kernel_rfl) ?_ ?_)
              · refine SimI.rn 2 [(79, .agg [lj a0.Value.N, ls a0.Value.Text]), (78, qp 1 14)] [] (.cl 80 true [[]] 26 [79] (some (77, true)) (fun r10 => qb r10) [.agg [lj a0.Value.N, ls a0.Value.Text]] (F26_ok n a0.Value) (fun r10 => ?_))
                refine SimI.rd 2 [(7, qb r10), (81, qb r10)] [] (.thenN (.pr [1, 5, 6, 7] [1] [] [(1, qp 1 0), (5, qb b6), (6, qb b8), (7, qb r10)] [(1, some (.cells (Command.cells a0)))] ?_))
                exact F35_j12_ok n a0 b6 b8 r10
              · refine SimI.rd 5 [(7, qb false), (81, qb false), (80, tz), (79, tz), (78, tz)] [] (.thenN (.pr [1, 5, 6, 7] [1] [] [(1, qp 1 0), (5, qb b6), (6, qb b8), (7, qb false)] [(1, some (.cells (Command.cells a0)))] ?_))
                exact F35_j12_ok n a0 b6 b8 false
            · refine SimI.rd 10 [(7, qb false), (81, qb false), (80, tz), (79, tz), (78, tz), (77, qb false), (76, qb false), (75, tz), (74, tz), (73, tz)] [] (.thenN (.pr [1, 5, 6, 7] [1] [] [(1, qp 1 0), (5, qb b6), (6, qb b8), (7, qb false)] [(1, some (.cells (Command.cells a0)))] ?_))
              exact F35_j12_ok n a0 b6 b8 false
          · refine SimI.rd 15 [(7, qb false), (81, qb false), (80, tz), (79, tz), (78, tz), (77, qb false), (76, qb false), (75, tz), (74, tz), (73, tz), (72, qb false), (71, qb false), (70, tz), (69, tz), (68, tz)] [] (.thenN (.pr [1, 5, 6, 7] [1] [] [(1, qp 1 0), (5, qb b6), (6, qb b8), (7, qb false)] [(1, some (.cells (Command.cells a0)))] ?_))
            exact F35_j12_ok n a0 b6 b8 false
        · refine SimI.rd 20 [(7, qb false), (81, qb false), (80, tz), (79, tz), (78, tz), (77, qb false), (76, qb false), (75, tz), (74, tz), (73, tz), (72, qb false), (71, qb false), (70, tz), (69, tz), (68, tz), (67, qb false), (66, qb false), (65, tz), (64, tz), (63, tz)] [] (.thenN (.pr [1, 5, 6, 7] [1] [] [(1, qp 1 0), (5, qb b6), (6, qb b8), (7, qb false)] [(1, some (.cells (Command.cells a0)))] ?_))
          exact F35_j12_ok n a0 b6 b8 false
      · refine SimI.rd 25 [(7, qb false), (81, qb false), (80, tz), (79, tz), (78, tz), (77, qb false), (76, qb false), (75, tz), (74, tz), (73, tz), (72, qb false), (71, qb false), (70, tz), (69, tz), (68, tz), (67, qb false), (66, qb false), (65, tz), (64, tz), (63, tz), (62, qb false), (61, qb false), (60, tz), (59, tz), (58, tz)] [] (.thenN (.pr [1, 5, 6, 7] [1] [] [(1, qp 1 0), (5, qb b6), (6, qb b8), (7, qb false)] [(1, some (.cells (Command.cells a0)))] ?_))
        exact F35_j12_ok n a0 b6 b8 false
    · refine SimI.rd 30 [(7, qb false), (81, qb false), (80, tz), (79, tz), (78, tz), (77, qb false), (76, qb false), (75, tz), (74, tz), (73, tz), (72, qb false), (71, qb false), (70, tz), (69, tz), (68, tz), (67, qb false), (66, qb false), (65, tz), (64, tz), (63, tz), (62, qb false), (61, qb false), (60, tz), (59, tz), (58, tz), (57, qb false), (56, qb false), (55, tz), (54, tz), (53, tz)] [] (.thenN (.pr [1, 5, 6, 7] [1] [] [(1, qp 1 0), (5, qb b6), (6, qb b8), (7, qb false)] [(1, some (.cells (Command.cells a0)))] ?_))
      exact F35_j12_ok n a0 b6 b8 false

def F35_j7 (n : Nat) (a0 : Command) (b6 : Bool) : Option Bool :=
    if decide ((0 : Int) ≤ a0.Client) then
      if decide (a0.Client < 4) then
        if decide ((0 : Int) ≤ a0.Session) then
          F35_j9 n a0 b6 (decide (a0.Session ≤ 1000000))
        else
          F35_j9 n a0 b6 false
      else
        F35_j9 n a0 b6 false
    else
      F35_j9 n a0 b6 false
theorem F35_j7_ok (n : Nat) (a0 : Command) (b6 : Bool) : Sim Try.prog D (n + 8) p35c31 [(1, qp 1 0), (5, qb b6)] [(1, some (.cells (Command.cells a0)))] (F35_j7 n a0 b6) (QF false pc35_r 0 F35_e) := by
    unfold F35_j7
    refine Sim.seq (.rg [(1, qp 1 0), (5, qb b6)] [(1, some (.cells (Command.cells a0)))] (.rn 4 [(34, qb (decide ((0 : Int) ≤ a0.Client))), (33, qb (decide ((0 : Int) ≤ a0.Client))), (32, qj a0.Client), (31, qp 1 16)] [] (.split 34 (decide ((0 : Int) ≤ a0.Client)) (by kernel_rfl) ?_ ?_)))
    · refine SimI.rn 5 [(39, qb (decide (a0.Client < 4))), (38, qb (decide (a0.Client < 4))), (37, qb (decide (a0.Client < 4))), (36, qj a0.Client), (35, qp 1 16)] [] (.split 39 (decide (a0.Client < 4)) (by kernel_rfl) ?_ ?_)
      · refine SimI.rn 5 [(44, qb (decide ((0 : Int) ≤ a0.Session))), (43, qb (decide ((0 : Int) ≤ a0.Session))), (42, qb (decide ((0 : Int) ≤ a0.Session))), (41, qj a0.Session), (40, qp 1 17)] [] (.split 44 (decide ((0 : Int) ≤ a0.Session)) (by kernel_rfl) ?_ ?_)
        · refine SimI.rd 5 [(6, qb (decide (a0.Session ≤ 1000000))), (48, qb (decide (a0.Session ≤ 1000000))), (47, qb (decide (a0.Session ≤ 1000000))), (46, qj a0.Session), (45, qp 1 17)] [] (.thenN (.pr [1, 5, 6] [1] [] [(1, qp 1 0), (5, qb b6), (6, qb (decide (a0.Session ≤ 1000000)))] [(1, some (.cells (Command.cells a0)))] ?_))
          exact F35_j9_ok n a0 b6 (decide (a0.Session ≤ 1000000))
        · refine SimI.rd 5 [(6, qb false), (48, qb false), (47, tz), (46, tz), (45, tz)] [] (.thenN (.pr [1, 5, 6] [1] [] [(1, qp 1 0), (5, qb b6), (6, qb false)] [(1, some (.cells (Command.cells a0)))] ?_))
          exact F35_j9_ok n a0 b6 false
      · refine SimI.rd 10 [(6, qb false), (48, qb false), (47, tz), (46, tz), (45, tz), (44, qb false), (43, qb false), (42, tz), (41, tz), (40, tz)] [] (.thenN (.pr [1, 5, 6] [1] [] [(1, qp 1 0), (5, qb b6), (6, qb false)] [(1, some (.cells (Command.cells a0)))] ?_))
        exact F35_j9_ok n a0 b6 false
    · refine SimI.rd 15 [(6, qb false), (48, qb false), (47, tz), (46, tz), (45, tz), (44, qb false), (43, qb false), (42, tz), (41, tz), (40, tz), (39, qb false), (38, qb false), (37, tz), (36, tz), (35, tz)] [] (.thenN (.pr [1, 5, 6] [1] [] [(1, qp 1 0), (5, qb b6), (6, qb false)] [(1, some (.cells (Command.cells a0)))] ?_))
      exact F35_j9_ok n a0 b6 false

def F35 (n : Nat) (a0 : Command) : Option Bool :=
  (F26 n a0.F.a0).bind fun (r1 : Bool) =>
  if !(r1) then
    some false
  else
    (F26 n a0.F.a1).bind fun (r2 : Bool) =>
    if !(r2) then
      some false
    else
      (F26 n a0.F.a2).bind fun (r3 : Bool) =>
      if !(r3) then
        some false
      else
        (F26 n a0.F.a3).bind fun (r4 : Bool) =>
        if !(r4) then
          some false
        else
          if decide ((1 : Int) ≤ a0.Kind) then
            if decide (a0.Kind ≤ 8) then
              (F58 n a0).bind fun (r5 : Command) =>
              F35_j7 n a0 (Command.eqb a0 r5)
            else
              F35_j7 n a0 false
          else
            F35_j7 n a0 false
theorem F35_ok (n : Nat) (a0 : Command) : ∀ r, F35 n a0 = some r → D 35 [.agg (Command.cells a0)] [] = some (F35_e r) := by
  refine fn_to (D := D) (n := n + 8) (nt := 111) (rs := pc35_r) (c := p35c34) (L := [(0, .agg (Command.cells a0))]) (M := []) (k := 0) rfl rfl rfl rfl rfl rfl rfl ?_
  unfold F35
  refine Sim.sr 2 [(2, qb false), (1, qp 1 0)] [(1, some (.cells (Command.cells a0)))] (.seq (.sr 3 [(10, qj 0), (9, .agg (A4_Field.cells a0.F)), (8, qp 1 6)] [] (.block (.loop (.succ (.seq (.rg [(1, qp 1 0), (9, .agg (A4_Field.cells a0.F)), (10, qj 0)] [(1, some (.cells (Command.cells a0)))] (.rd 1 [(11, qb true)] [] (.thenN (.seq (.condT (by kernel_rfl) (.skip (.thenN (.seq (.block (.sr 3 [(4, qp 4 0), (12, .agg [lj a0.F.a0.N, ls a0.F.a0.Text])] [(4, some (.cells [lj a0.F.a0.N, ls a0.F.a0.Text])), (4, some (.cells [lj 0, ls be]))] (.st 1 [(13, .agg [lj a0.F.a0.N, ls a0.F.a0.Text])] [] (.cl 14 true [[]] 26 [13] none (fun r1 => qb r1) [.agg [lj a0.F.a0.N, ls a0.F.a0.Text]] (F26_ok n a0.F.a0) (fun r1 => ?_)))))))))))))))))))
  refine SimI.rd 1 [(15, qb (!(r1)))] [] (.thenN (.cond (!(r1)) (by kernel_rfl) ?_ ?_))
  · exact Sim.sr 1 [(2, qb false)] [] (.ret (.blockR (.thenR (.loopR (.blockR (.thenR .fn))))))
  · refine Sim.skip (.blockN (.thenN (.region0 (.rd 2 [(10, qj 1), (16, qj 1)] [] (.loopN (.succ (.seq (.rg [(1, qp 1 0), (9, .agg (A4_Field.cells a0.F)), (10, qj 1)] [(1, some (.cells (Command.cells a0)))] (.rd 1 [(11, qb true)] [] (.thenN (.seq (.condT (by kernel_rfl) (.skip (.thenN (.seq (.block (.sr 3 [(4, qp 4 0), (12, .agg [lj a0.F.a1.N, ls a0.F.a1.Text])] [(4, some (.cells [lj a0.F.a1.N, ls a0.F.a1.Text])), (4, some (.cells [lj 0, ls be]))] (.st 1 [(13, .agg [lj a0.F.a1.N, ls a0.F.a1.Text])] [] (.cl 14 true [[]] 26 [13] none (fun r2 => qb r2) [.agg [lj a0.F.a1.N, ls a0.F.a1.Text]] (F26_ok n a0.F.a1) (fun r2 => ?_))))))))))))))))))))
    refine SimI.rd 1 [(15, qb (!(r2)))] [] (.thenN (.cond (!(r2)) (by kernel_rfl) ?_ ?_))
    · exact Sim.sr 1 [(2, qb false)] [] (.ret (.blockR (.thenR (.loopR (.blockR (.thenR .fn))))))
    · refine Sim.skip (.blockN (.thenN (.region0 (.rd 2 [(10, qj 2), (16, qj 2)] [] (.loopN (.succ (.seq (.rg [(1, qp 1 0), (9, .agg (A4_Field.cells a0.F)), (10, qj 2)] [(1, some (.cells (Command.cells a0)))] (.rd 1 [(11, qb true)] [] (.thenN (.seq (.condT (by kernel_rfl) (.skip (.thenN (.seq (.block (.sr 3 [(4, qp 4 0), (12, .agg [lj a0.F.a2.N, ls a0.F.a2.Text])] [(4, some (.cells [lj a0.F.a2.N, ls a0.F.a2.Text])), (4, some (.cells [lj 0, ls be]))] (.st 1 [(13, .agg [lj a0.F.a2.N, ls a0.F.a2.Text])] [] (.cl 14 true [[]] 26 [13] none (fun r3 => qb r3) [.agg [lj a0.F.a2.N, ls a0.F.a2.Text]] (F26_ok n a0.F.a2) (fun r3 => ?_))))))))))))))))))))
      refine SimI.rd 1 [(15, qb (!(r3)))] [] (.thenN (.cond (!(r3)) (by kernel_rfl) ?_ ?_))
      · exact Sim.sr 1 [(2, qb false)] [] (.ret (.blockR (.thenR (.loopR (.blockR (.thenR .fn))))))
      · refine Sim.skip (.blockN (.thenN (.region0 (.rd 2 [(10, qj 3), (16, qj 3)] [] (.loopN (.succ (.seq (.rg [(1, qp 1 0), (9, .agg (A4_Field.cells a0.F)), (10, qj 3)] [(1, some (.cells (Command.cells a0)))] (.rd 1 [(11, qb true)] [] (.thenN (.seq (.condT (by kernel_rfl) (.skip (.thenN (.seq (.block (.sr 3 [(4, qp 4 0), (12, .agg [lj a0.F.a3.N, ls a0.F.a3.Text])] [(4, some (.cells [lj a0.F.a3.N, ls a0.F.a3.Text])), (4, some (.cells [lj 0, ls be]))] (.st 1 [(13, .agg [lj a0.F.a3.N, ls a0.F.a3.Text])] [] (.cl 14 true [[]] 26 [13] none (fun r4 => qb r4) [.agg [lj a0.F.a3.N, ls a0.F.a3.Text]] (F26_ok n a0.F.a3) (fun r4 => ?_))))))))))))))))))))
        refine SimI.rd 1 [(15, qb (!(r4)))] [] (.thenN (.cond (!(r4)) (by kernel_rfl) ?_ ?_))
        · exact Sim.sr 1 [(2, qb false)] [] (.ret (.blockR (.thenR (.loopR (.blockR (.thenR .fn))))))
        · refine Sim.skip (.blockN (.thenN (.region0 (.rd 2 [(10, qj 4), (16, qj 4)] [] (.loopN (.succ (.seq (.rg [(1, qp 1 0), (9, .agg (A4_Field.cells a0.F)), (10, qj 4)] [(1, some (.cells (Command.cells a0)))] (.rd 1 [(11, qb false)] [] (.thenN (.seq (.condF (by kernel_rfl) (.exit (.thenX (.loopX (.blockX (.thenN (.st 4 [(20, qb (decide ((1 : Int) ≤ a0.Kind))), (19, qb (decide ((1 : Int) ≤ a0.Kind))), (18, qj a0.Kind), (17, qp 1 0)] [] (.split 20 (decide ((1 : Int) ≤ a0.Kind)) (by kernel_rfl) ?_ ?_)))))))))))))))))))
          · refine SimI.rn 5 [(25, qb (decide (a0.Kind ≤ 8))), (24, qb (decide (a0.Kind ≤ 8))), (23, qb (decide (a0.Kind ≤ 8))), (22, qj a0.Kind), (21, qp 1 0)] [] (.split 25 (decide (a0.Kind ≤ 8)) (by kernel_rfl) ?_ ?_)
            · refine SimI.rn 2 [(27, .agg (Command.cells a0)), (26, .agg (Command.cells a0))] [] (.bind (og := F58 n a0) ⟨some 28, POp.call false [[]] 58 [27], some (25, true), [(27, Hint.imm)]⟩ (fun r5 => [(28, .agg (Command.cells r5))]) (fun r5 => []) (by kernel_rfl) (fun r5 hr => pOp_eff (by kernel_rfl) (by kernel_rfl) (eff_call (ARGS := [.agg (Command.cells a0)]) (by kernel_rfl) (args_clean (by kernel_rfl) args_nil) (F58_ok n a0 r5 hr) (by kernel_rfl))) (fun r5 => ?_))
              refine SimI.step ⟨some 29, POp.prim (Prim.bin BinOp.eql 57 false false) [26, 28], some (25, true), [(26, Hint.imm), (28, Hint.imm)]⟩ [(29, qb (Command.eqb a0 r5))] [] (by kernel_rfl) (pOp_eff (by kernel_rfl) (by kernel_rfl) (eff_prim (by kernel_rfl) (Command_eql a0 r5 _ _))) (.rd 2 [(5, qb (Command.eqb a0 r5)), (30, qb (Command.eqb a0 r5))] [] (.thenN (.pr [1, 5] [1] [] [(1, qp 1 0), (5, qb (Command.eqb a0 r5))] [(1, some (.cells (Command.cells a0)))] ?_)))
              exact F35_j7_ok n a0 (Command.eqb a0 r5)
            · refine SimI.rd 6 [(5, qb false), (30, qb false), (29, tz), (28, tz), (27, tz), (26, tz)] [] (.thenN (.pr [1, 5] [1] [] [(1, qp 1 0), (5, qb false)] [(1, some (.cells (Command.cells a0)))] ?_))
              exact F35_j7_ok n a0 false
          · refine SimI.rd 11 [(5, qb false), (30, qb false), (29, tz), (28, tz), (27, tz), (26, tz), (25, qb false), (24, qb false), (23, tz), (22, tz), (21, tz)] [] (.thenN (.pr [1, 5] [1] [] [(1, qp 1 0), (5, qb false)] [(1, some (.cells (Command.cells a0)))] ?_))
            exact F35_j7_ok n a0 false


-- 42: vedette/num.Put
def F42_e : ByteArray → PV × List Ob := fun r => (.one (ls r), [])
def F42_l7 (n : Nat) : Nat → Int → (List Int) → Option ByteArray
  | 0, _, _ => none
  | m + 1, i5, l6 =>
    if decide ((128 : Int) ≤ i5) then
      if ((l6).length + 1) * 1 ≤ maxCells ∧ (l6).length + 1 ≤ maxCells then
        (F42_l7 n m) (shrI .u64 i5 7) (l6 ++ [bitsI .or .u8 (IntKind.wrap .u8 i5) 128])
      else none
    else
      if ((l6).length + 1) * 1 ≤ maxCells ∧ (l6).length + 1 ≤ maxCells then
        some (mkStr (l6 ++ [IntKind.wrap .u8 i5]))
      else none
theorem F42_l7_ok (n : Nat) : ∀ (m : Nat) (i5 : Int) (l6 : (List Int)), SimL Try.prog D (n + 8) m p42c12 [(0, .one (li .u64 i5)), (3, .one (.osl 100003 0 0 (l6).length))] [(100003, some (.arr 5 (codI .u8).sz 0 (l6).length (getOf (codI .u8) l6)))] (F42_l7 n m i5 l6) (QB 0 (QT Try.prog D (n + 8) p42c17 (QF false pc42_r 0 F42_e))) := by
  intro m_l7
  induction m_l7 with
  | zero => intro i5 l6; exact SimL.zero'  rfl
  | succ m_l7 ih_l7 =>
    intro i5 l6
    refine SimL.succ ?_
    unfold F42_l7
    refine Sim.seq (.seq (.rg [(0, .one (li .u64 i5)), (3, .one (.osl 100003 0 0 (l6).length))] [(100003, some (.arr 5 (codI .u8).sz 0 (l6).length (getOf (codI .u8) l6)))] (.rd 2 [(5, qb (decide ((128 : Int) ≤ i5))), (4, .one (li .u64 i5))] [] (.thenN (.cond (decide ((128 : Int) ≤ i5)) (by kernel_rfl) ?_ ?_)))))
    · refine Sim.skip (.thenN (.block (.st 5 [(10, .one (vw (codI .u8) [bitsI .or .u8 (iw .u8 i5) 128])), (9, .one (li .u8 (bitsI .or .u8 (iw .u8 i5) 128))), (8, .one (li .u8 (iw .u8 i5))), (7, .one (li .u64 i5)), (6, .one (.osl 100003 0 0 (l6).length))] [] (.guard (c := ((l6).length + 1) * 1 ≤ maxCells ∧ (l6).length + 1 ≤ maxCells) ⟨some 11, POp.app 100003 5 1 1 (Operand.tmp 6) (Operand.tmp 10), none, []⟩ [(11, .one (.osl 100003 (0 + 1) 0 ((l6 ++ [bitsI .or .u8 (iw .u8 i5) 128])).length))] [(100003, some (.arr 5 (codI .u8).sz (0 + 1) ((l6 ++ [bitsI .or .u8 (iw .u8 i5) 128])).length (getOf (codI .u8) (l6 ++ [bitsI .or .u8 (iw .u8 i5) 128]))))] (by kernel_rfl) (fun hc => pOp_eff (by kernel_rfl) (by kernel_rfl) (eff_appO (c := (codI .u8)) (g := 0) (l := l6) (a := bitsI .or .u8 (iw .u8 i5) 128) (by kernel_rfl) (by kernel_rfl) (by kernel_rfl) (by kernel_rfl) hc)) (.rd 1 [(3, .one (.osl 100003 (0 + 1) 0 ((l6 ++ [bitsI .or .u8 (iw .u8 i5) 128])).length))] [] (.thenN (.region0 (.rd 3 [(0, .one (li .u64 (shrI .u64 i5 7))), (13, .one (li .u64 (shrI .u64 i5 7))), (12, .one (li .u64 i5))] [] (.blockN (.loopN (.pr [0, 3] [100003] [(false, 3, 0, 100003, 5, 1)] [(0, .one (li .u64 (shrI .u64 i5 7))), (3, .one (.osl 100003 0 0 ((l6 ++ [bitsI .or .u8 (iw .u8 i5) 128])).length))] [(100003, some (.arr 5 (codI .u8).sz 0 ((l6 ++ [bitsI .or .u8 (iw .u8 i5) 128])).length (getOf (codI .u8) (l6 ++ [bitsI .or .u8 (iw .u8 i5) 128]))))] ?_)))))))))))
      exact ih_l7 (shrI .u64 i5 7) (l6 ++ [bitsI .or .u8 (iw .u8 i5) 128])
    · exact Sim.exit (.thenX (.loopX (.blockX (.thenN (.st 4 [(17, .one (vw (codI .u8) [IntKind.wrap .u8 i5])), (16, .one (li .u8 (iw .u8 i5))), (15, .one (li .u64 i5)), (14, .one (.osl 100003 0 0 (l6).length))] [] (.guard (c := ((l6).length + 1) * 1 ≤ maxCells ∧ (l6).length + 1 ≤ maxCells) ⟨some 18, POp.app 100003 5 1 1 (Operand.tmp 14) (Operand.tmp 17), none, []⟩ [(18, .one (.osl 100003 (0 + 1) 0 ((l6 ++ [IntKind.wrap .u8 i5])).length))] [(100003, some (.arr 5 (codI .u8).sz (0 + 1) ((l6 ++ [IntKind.wrap .u8 i5])).length (getOf (codI .u8) (l6 ++ [IntKind.wrap .u8 i5]))))] (by kernel_rfl) (fun hc => pOp_eff (by kernel_rfl) (by kernel_rfl) (eff_appO (c := (codI .u8)) (g := 0) (l := l6) (a := IntKind.wrap .u8 i5) (by kernel_rfl) (by kernel_rfl) (by kernel_rfl) (by kernel_rfl) hc)) (.step ⟨some 19, POp.b2s (Operand.tmp 18), none, []⟩ [(19, qs (mkStr (l6 ++ [IntKind.wrap .u8 i5])))] [] (by kernel_rfl) (pOp_eff (by kernel_rfl) (by kernel_rfl) (eff_b2sO (l := (l6 ++ [IntKind.wrap .u8 i5])) (k := 100003) (g := (0 + 1)) (el := 5) (by kernel_rfl) (by kernel_rfl))) (.rd 1 [(2, qs (mkStr (l6 ++ [IntKind.wrap .u8 i5])))] [] (.thenN (.ret .fn))))))))))

def F42 (n : Nat) (a0 : Int) : Option ByteArray :=
  F42_l7 n (n + 8) a0 ([] : List Int)
theorem F42_ok (n : Nat) (a0 : Int) : ∀ r, F42 n a0 = some r → D 42 [.one (li .u64 a0)] [] = some (F42_e r) := by
  refine fn_to (D := D) (n := n + 8) (nt := 20) (rs := pc42_r) (c := p42c20) (L := [(0, .one (li .u64 a0))]) (M := []) (k := 0) rfl rfl rfl rfl rfl rfl rfl ?_
  unfold F42
  refine Sim.sr 1 [(2, qs be)] [] (.sr 1 [(3, .one (lnil))] [] (.seq (.block (.loop (.pr [0, 3] [100003] [(false, 3, 0, 100003, 5, 1)] [(0, .one (li .u64 a0)), (3, .one (.osl 100003 0 0 (([] : List Int)).length))] [(100003, some (.arr 5 (codI .u8).sz 0 (([] : List Int)).length (getOf (codI .u8) ([] : List Int))))] ?_)))))
  exact F42_l7_ok n (n + 8) a0 ([] : List Int)


-- 44: vedette/num.Text
def F44_e : ByteArray → PV × List Ob := fun r => (.one (ls r), [])
def F44 (n : Nat) (a0 : ByteArray) : Option ByteArray :=
  (F42 n (IntKind.wrap .u64 (a0.size : Int))).bind fun (r1 : ByteArray) =>
  if r1.size + a0.size ≤ 9223372036854775807 then
    some (r1 ++ a0)
  else none
theorem F44_ok (n : Nat) (a0 : ByteArray) : ∀ r, F44 n a0 = some r → D 44 [.one (ls a0)] [] = some (F44_e r) := by
  refine fn_to (D := D) (n := n + 8) (nt := 9) (rs := pc44_r) (c := p44c5) (L := [(0, qs a0)]) (M := []) (k := 0) rfl rfl rfl rfl rfl rfl rfl ?_
  unfold F44
  refine Sim.sr 1 [(2, qs be)] [] (.st 3 [(5, .one (li .u64 (iw .u64 (a0.size : Int)))), (4, qj (a0.size : Int)), (3, qs a0)] [] (.cl 6 true [[]] 42 [5] none (fun r1 => qs r1) [.one (li .u64 (iw .u64 (a0.size : Int)))] (F42_ok n (iw .u64 (a0.size : Int))) (fun r1 => ?_)))
  exact SimI.rn 1 [(7, qs a0)] [] (.guard (c := r1.size + a0.size ≤ 9223372036854775807) ⟨some 8, POp.prim (Prim.bin BinOp.add 9 false false) [6, 7], none, []⟩ [(8, qs (r1 ++ a0))] [] (by kernel_rfl) (fun hc => pOp_eff (by kernel_rfl) (by kernel_rfl) (eff_prim (by kernel_rfl) (pr_addS _ _ _ r1 a0 hc))) (.rd 1 [(2, qs (r1 ++ a0))] [] (.thenN (.ret .fn))))


-- 68: vedette/num.Zig
def F68_e : Int → PV × List Ob := fun r => (.one (li .u64 r), [])
def F68 (n : Nat) (a0 : Int) : Option Int :=
  some (bitsI .xor .u64 (shlI .u64 (IntKind.wrap .u64 a0) 1) (IntKind.wrap .u64 (shrI .i64 a0 63)))
theorem F68_ok (n : Nat) (a0 : Int) : ∀ r, F68 n a0 = some r → D 68 [.one (li .i64 a0)] [] = some (F68_e r) := by
  refine fn_to (D := D) (n := n + 8) (nt := 10) (rs := pc68_r) (c := p68c5) (L := [(0, qj a0)]) (M := []) (k := 0) rfl rfl rfl rfl rfl rfl rfl ?_
  unfold F68
  exact Sim.sr 1 [(2, .one (li .u64 0))] [] (.sr 8 [(2, .one (li .u64 (bitsI .xor .u64 (shlI .u64 (iw .u64 a0) 1) (iw .u64 (shrI .i64 a0 63))))), (9, .one (li .u64 (bitsI .xor .u64 (shlI .u64 (iw .u64 a0) 1) (iw .u64 (shrI .i64 a0 63))))), (8, .one (li .u64 (iw .u64 (shrI .i64 a0 63)))), (7, qj (shrI .i64 a0 63)), (6, qj a0), (5, .one (li .u64 (shlI .u64 (iw .u64 a0) 1))), (4, .one (li .u64 (iw .u64 a0))), (3, qj a0)] [] (.ret .fn))


-- 45: vedette/num.Int
def F45_e : ByteArray → PV × List Ob := fun r => (.one (ls r), [])
def F45 (n : Nat) (a0 : Int) : Option ByteArray :=
  (F68 n a0).bind fun (r1 : Int) =>
  (F42 n r1).bind fun (r2 : ByteArray) =>
  some r2
theorem F45_ok (n : Nat) (a0 : Int) : ∀ r, F45 n a0 = some r → D 45 [.one (li .i64 a0)] [] = some (F45_e r) := by
  refine fn_to (D := D) (n := n + 8) (nt := 6) (rs := pc45_r) (c := p45c5) (L := [(0, qj a0)]) (M := []) (k := 0) rfl rfl rfl rfl rfl rfl rfl ?_
  unfold F45
  refine Sim.sr 1 [(2, qs be)] [] (.st 1 [(3, qj a0)] [] (.cl 4 true [[]] 68 [3] none (fun r1 => .one (li .u64 r1)) [qj a0] (F68_ok n a0) (fun r1 => ?_)))
  refine SimI.cl 5 true [[]] 42 [4] none (fun r2 => qs r2) [.one (li .u64 r1)] (F42_ok n r1) (fun r2 => ?_)
  exact SimI.rd 1 [(2, qs r2)] [] (.thenN (.ret .fn))


-- 56: vedette/cmd.parts
def F56s0_e (a0 : Command) : Nat → PV × List Ob := fun r =>
    if r = 0 then (.one (.view 1 0 fun _ => []), [.cells (Command.cells a0)]) else
    if r = 1 then (.one (.csl 1000001 1 0 2), [.cells (Command.cells a0), .cells [.ptr 1000000 4, .ptr 1000000 5]]) else
    if r = 2 then (.one (.csl 1000001 1 0 3), [.cells (Command.cells a0), .cells [.ptr 1000000 1, .ptr 1000000 4, .ptr 1000000 5]]) else
    if r = 3 then (.one (.csl 1000001 1 0 2), [.cells (Command.cells a0), .cells [.ptr 1000000 1, .ptr 1000000 2]]) else
    if r = 4 then (.one (.csl 1000001 1 0 1), [.cells (Command.cells a0), .cells [.ptr 1000000 1]]) else
    if r = 5 then (.one (.csl 1000001 1 0 2), [.cells (Command.cells a0), .cells [.ptr 1000000 2, .ptr 1000000 3]]) else
    (.one (.csl 1000001 1 0 4), [.cells (Command.cells a0), .cells [.ptr 1000000 18, .ptr 1000000 19, .ptr 1000000 20, .ptr 1000000 21]])
theorem F56s0_e_0 (a0 : Command) (r : Nat) (h : r = 0) : F56s0_e a0 r = (.one (.view 1 0 fun _ => []), [.cells (Command.cells a0)]) := by
  unfold F56s0_e; simp only [h]; rfl
theorem F56s0_e_1 (a0 : Command) (r : Nat) (h : r = 1) : F56s0_e a0 r = (.one (.csl 1000001 1 0 2), [.cells (Command.cells a0), .cells [.ptr 1000000 4, .ptr 1000000 5]]) := by
  unfold F56s0_e; simp only [h]; rfl
theorem F56s0_e_2 (a0 : Command) (r : Nat) (h : r = 2) : F56s0_e a0 r = (.one (.csl 1000001 1 0 3), [.cells (Command.cells a0), .cells [.ptr 1000000 1, .ptr 1000000 4, .ptr 1000000 5]]) := by
  unfold F56s0_e; simp only [h]; rfl
theorem F56s0_e_3 (a0 : Command) (r : Nat) (h : r = 3) : F56s0_e a0 r = (.one (.csl 1000001 1 0 2), [.cells (Command.cells a0), .cells [.ptr 1000000 1, .ptr 1000000 2]]) := by
  unfold F56s0_e; simp only [h]; rfl
theorem F56s0_e_4 (a0 : Command) (r : Nat) (h : r = 4) : F56s0_e a0 r = (.one (.csl 1000001 1 0 1), [.cells (Command.cells a0), .cells [.ptr 1000000 1]]) := by
  unfold F56s0_e; simp only [h]; rfl
theorem F56s0_e_5 (a0 : Command) (r : Nat) (h : r = 5) : F56s0_e a0 r = (.one (.csl 1000001 1 0 2), [.cells (Command.cells a0), .cells [.ptr 1000000 2, .ptr 1000000 3]]) := by
  unfold F56s0_e; simp only [h]; rfl
theorem F56s0_e_6 (a0 : Command) (r : Nat) (h : r = 6) : F56s0_e a0 r = (.one (.csl 1000001 1 0 4), [.cells (Command.cells a0), .cells [.ptr 1000000 18, .ptr 1000000 19, .ptr 1000000 20, .ptr 1000000 21]]) := by
  unfold F56s0_e; simp only [h]; rfl
def F56s0_j1 (n : Nat) : Option Nat :=
    some 6
theorem F56s0_j1_ok (n : Nat) (a0 : Command) : Sim Try.prog D (n + 8) p56c30 [(0, qp 1000000 0)] [(1000000, some (.cells (Command.cells a0)))] (F56s0_j1 n) (QB 0 (QT Try.prog D (n + 8) p56c48 (QF false pc56_r 1 (F56s0_e a0)))) := by
    unfold F56s0_j1
    exact Sim.seq (.rg [(0, qp 1000000 0)] [(1000000, some (.cells (Command.cells a0)))] (.rd 18 [(2, .one (.csl 75 1 0 4)), (75, .one (.csl 75 1 0 4)), (74, qp 1000000 21), (73, qp 1000000 18), (72, qp 1000000 0), (71, qp 1000000 0), (70, qp 1000000 20), (69, qp 1000000 18), (68, qp 1000000 0), (67, qp 1000000 0), (66, qp 1000000 19), (65, qp 1000000 18), (64, qp 1000000 0), (63, qp 1000000 0), (62, qp 1000000 18), (61, qp 1000000 18), (60, qp 1000000 0), (59, qp 1000000 0)] [(75, some (.cells [.ptr 1000000 18, .ptr 1000000 19, .ptr 1000000 20, .ptr 1000000 21]))] (.thenN (.ret (.blockR (.thenR .fn))))))

def F56s0 (n : Nat) (a0 : Command) : Option Nat :=
  if a0.Kind == 1 then
    some 1
  else
    if a0.Kind == 2 then
      some 2
    else
      if a0.Kind == 3 then
        some 3
      else
        if a0.Kind == 4 then
          some 4
        else
          if a0.Kind == 5 then
            some 5
          else
            if a0.Kind == 6 then
              if a0.Kind == 6 then
                F56s0_j1 n
              else
                some 0
            else
              if a0.Kind == 7 then
                F56s0_j1 n
              else
                some 0
theorem F56s0_ok (n : Nat) (a0 : Command) : ∀ r, F56s0 n a0 = some r → D 56 [.one (.ptr 1000000 0)] [.cells (Command.cells a0)] = some ((F56s0_e a0) r) := by
  refine fn_to (D := D) (n := n + 8) (nt := 76) (rs := pc56_r) (c := p56c50) (L := [(0, qp 1000000 0)]) (M := [(1000000, some (.cells (Command.cells a0)))]) (k := 1) rfl rfl rfl rfl rfl rfl rfl ?_
  unfold F56s0
  refine Sim.sr 1 [(2, .one (lnil))] [] (.seq (.sr 4 [(6, qj a0.Kind), (5, qp 1000000 0), (4, qp 1000000 0), (3, qp 1000000 0)] [] (.block (.sr 2 [(7, qb (a0.Kind == 1)), (8, qb (a0.Kind == 1))] [] (.cond (a0.Kind == 1) (by kernel_rfl) ?_ ?_)))))
  · exact Sim.sr 10 [(2, .one (.csl 17 1 0 2)), (17, .one (.csl 17 1 0 2)), (16, qp 1000000 5), (15, qp 1000000 4), (14, qp 1000000 0), (13, qp 1000000 0), (12, qp 1000000 4), (11, qp 1000000 4), (10, qp 1000000 0), (9, qp 1000000 0)] [(17, some (.cells [.ptr 1000000 4, .ptr 1000000 5]))] (.ret (.blockR (.thenR .fn)))
  · refine Sim.sr 2 [(18, qb (a0.Kind == 2)), (19, qb (a0.Kind == 2))] [] (.cond (a0.Kind == 2) (by kernel_rfl) ?_ ?_)
    · exact Sim.sr 13 [(2, .one (.csl 31 1 0 3)), (31, .one (.csl 31 1 0 3)), (30, qp 1000000 5), (29, qp 1000000 4), (28, qp 1000000 0), (27, qp 1000000 0), (26, qp 1000000 4), (25, qp 1000000 4), (24, qp 1000000 0), (23, qp 1000000 0), (22, qp 1000000 1), (21, qp 1000000 0), (20, qp 1000000 0)] [(31, some (.cells [.ptr 1000000 1, .ptr 1000000 4, .ptr 1000000 5]))] (.ret (.blockR (.thenR .fn)))
    · refine Sim.sr 2 [(32, qb (a0.Kind == 3)), (33, qb (a0.Kind == 3))] [] (.cond (a0.Kind == 3) (by kernel_rfl) ?_ ?_)
      · exact Sim.sr 8 [(2, .one (.csl 40 1 0 2)), (40, .one (.csl 40 1 0 2)), (39, qp 1000000 2), (38, qp 1000000 0), (37, qp 1000000 0), (36, qp 1000000 1), (35, qp 1000000 0), (34, qp 1000000 0)] [(40, some (.cells [.ptr 1000000 1, .ptr 1000000 2]))] (.ret (.blockR (.thenR .fn)))
      · refine Sim.sr 2 [(41, qb (a0.Kind == 4)), (42, qb (a0.Kind == 4))] [] (.cond (a0.Kind == 4) (by kernel_rfl) ?_ ?_)
        · exact Sim.sr 5 [(2, .one (.csl 46 1 0 1)), (46, .one (.csl 46 1 0 1)), (45, qp 1000000 1), (44, qp 1000000 0), (43, qp 1000000 0)] [(46, some (.cells [.ptr 1000000 1]))] (.ret (.blockR (.thenR .fn)))
        · refine Sim.sr 2 [(47, qb (a0.Kind == 5)), (48, qb (a0.Kind == 5))] [] (.cond (a0.Kind == 5) (by kernel_rfl) ?_ ?_)
          · exact Sim.sr 8 [(2, .one (.csl 55 1 0 2)), (55, .one (.csl 55 1 0 2)), (54, qp 1000000 3), (53, qp 1000000 0), (52, qp 1000000 0), (51, qp 1000000 2), (50, qp 1000000 0), (49, qp 1000000 0)] [(55, some (.cells [.ptr 1000000 2, .ptr 1000000 3]))] (.ret (.blockR (.thenR .fn)))
          · refine Sim.seq (.sr 2 [(56, qb (a0.Kind == 6)), (57, qb (a0.Kind == 6))] [] (.cond (a0.Kind == 6) (by kernel_rfl) ?_ ?_))
            · refine Sim.skip (.thenN (.cond (a0.Kind == 6) (by kernel_rfl) ?_ ?_))
              · refine Sim.pr [0] [1000000] [] [(0, qp 1000000 0)] [(1000000, some (.cells (Command.cells a0)))] ?_
                exact F56s0_j1_ok n a0
              · exact Sim.skip (.blockN (.thenN (.sr 1 [(2, .one (lnil))] [] (.ret .fn))))
            · refine Sim.region0 (.rd 2 [(56, qb (a0.Kind == 7)), (58, qb (a0.Kind == 7))] [] (.thenN (.cond (a0.Kind == 7) (by kernel_rfl) ?_ ?_)))
              · refine Sim.pr [0] [1000000] [] [(0, qp 1000000 0)] [(1000000, some (.cells (Command.cells a0)))] ?_
                exact F56s0_j1_ok n a0
              · exact Sim.skip (.blockN (.thenN (.sr 1 [(2, .one (lnil))] [] (.ret .fn))))


-- 57: vedette/cmd.values
def F57s0_e (a0 : Command) : Nat → PV × List Ob := fun r =>
    if r = 0 then (.one (.view 1 0 fun _ => []), [.cells (Command.cells a0)]) else
    if r = 1 then (.one (.csl 1000001 1 0 4), [.cells (Command.cells a0), .cells [.ptr 1000000 6, .ptr 1000000 8, .ptr 1000000 10, .ptr 1000000 12]]) else
    (.one (.csl 1000001 1 0 1), [.cells (Command.cells a0), .cells [.ptr 1000000 14]])
theorem F57s0_e_0 (a0 : Command) (r : Nat) (h : r = 0) : F57s0_e a0 r = (.one (.view 1 0 fun _ => []), [.cells (Command.cells a0)]) := by
  unfold F57s0_e; simp only [h]; rfl
theorem F57s0_e_1 (a0 : Command) (r : Nat) (h : r = 1) : F57s0_e a0 r = (.one (.csl 1000001 1 0 4), [.cells (Command.cells a0), .cells [.ptr 1000000 6, .ptr 1000000 8, .ptr 1000000 10, .ptr 1000000 12]]) := by
  unfold F57s0_e; simp only [h]; rfl
theorem F57s0_e_2 (a0 : Command) (r : Nat) (h : r = 2) : F57s0_e a0 r = (.one (.csl 1000001 1 0 1), [.cells (Command.cells a0), .cells [.ptr 1000000 14]]) := by
  unfold F57s0_e; simp only [h]; rfl
def F57s0 (n : Nat) (a0 : Command) : Option Nat :=
  if a0.Kind == 1 then
    some 1
  else
    if a0.Kind == 3 then
      some 2
    else
      some 0
theorem F57s0_ok (n : Nat) (a0 : Command) : ∀ r, F57s0 n a0 = some r → D 57 [.one (.ptr 1000000 0)] [.cells (Command.cells a0)] = some ((F57s0_e a0) r) := by
  refine fn_to (D := D) (n := n + 8) (nt := 32) (rs := pc57_r) (c := p57c22) (L := [(0, qp 1000000 0)]) (M := [(1000000, some (.cells (Command.cells a0)))]) (k := 1) rfl rfl rfl rfl rfl rfl rfl ?_
  unfold F57s0
  refine Sim.sr 1 [(2, .one (lnil))] [] (.seq (.sr 4 [(6, qj a0.Kind), (5, qp 1000000 0), (4, qp 1000000 0), (3, qp 1000000 0)] [] (.block (.sr 2 [(7, qb (a0.Kind == 1)), (8, qb (a0.Kind == 1))] [] (.cond (a0.Kind == 1) (by kernel_rfl) ?_ ?_)))))
  · exact Sim.sr 18 [(2, .one (.csl 25 1 0 4)), (25, .one (.csl 25 1 0 4)), (24, qp 1000000 12), (23, qp 1000000 6), (22, qp 1000000 0), (21, qp 1000000 0), (20, qp 1000000 10), (19, qp 1000000 6), (18, qp 1000000 0), (17, qp 1000000 0), (16, qp 1000000 8), (15, qp 1000000 6), (14, qp 1000000 0), (13, qp 1000000 0), (12, qp 1000000 6), (11, qp 1000000 6), (10, qp 1000000 0), (9, qp 1000000 0)] [(25, some (.cells [.ptr 1000000 6, .ptr 1000000 8, .ptr 1000000 10, .ptr 1000000 12]))] (.ret (.blockR (.thenR .fn)))
  · refine Sim.sr 2 [(26, qb (a0.Kind == 3)), (27, qb (a0.Kind == 3))] [] (.cond (a0.Kind == 3) (by kernel_rfl) ?_ ?_)
    · exact Sim.sr 5 [(2, .one (.csl 31 1 0 1)), (31, .one (.csl 31 1 0 1)), (30, qp 1000000 14), (29, qp 1000000 0), (28, qp 1000000 0)] [(31, some (.cells [.ptr 1000000 14]))] (.ret (.blockR (.thenR .fn)))
    · exact Sim.skip (.blockN (.thenN (.sr 1 [(2, .one (lnil))] [] (.ret .fn))))


-- 34: vedette/cmd.Bytes
def F34_e : (ByteArray × Int) → PV × List Ob := fun r => (.tup [.one (ls r.1), .one (li .i64 r.2)], [])
def F34_j21 (n : Nat) (a0 : Command) (s20 : ByteArray) : Option (ByteArray × Int) :=
    (F57s0 n a0).bind fun (r22 : Nat) =>
    if r22 = 0 then
      some (s20, 0)
    else
      if r22 = 1 then
        (F44 n a0.F.a0.Text).bind fun (r25 : ByteArray) =>
        (F45 n a0.F.a0.N).bind fun (r26 : ByteArray) =>
        if r25.size + r26.size ≤ 9223372036854775807 then
          if s20.size + (r25 ++ r26).size ≤ 9223372036854775807 then
            (F44 n a0.F.a1.Text).bind fun (r27 : ByteArray) =>
            (F45 n a0.F.a1.N).bind fun (r28 : ByteArray) =>
            if r27.size + r28.size ≤ 9223372036854775807 then
              if (s20 ++ (r25 ++ r26)).size + (r27 ++ r28).size ≤ 9223372036854775807 then
                (F44 n a0.F.a2.Text).bind fun (r29 : ByteArray) =>
                (F45 n a0.F.a2.N).bind fun (r30 : ByteArray) =>
                if r29.size + r30.size ≤ 9223372036854775807 then
                  if ((s20 ++ (r25 ++ r26)) ++ (r27 ++ r28)).size + (r29 ++ r30).size ≤ 9223372036854775807 then
                    (F44 n a0.F.a3.Text).bind fun (r31 : ByteArray) =>
                    (F45 n a0.F.a3.N).bind fun (r32 : ByteArray) =>
                    if r31.size + r32.size ≤ 9223372036854775807 then
                      if (((s20 ++ (r25 ++ r26)) ++ (r27 ++ r28)) ++ (r29 ++ r30)).size + (r31 ++ r32).size ≤ 9223372036854775807 then
                        some ((((s20 ++ (r25 ++ r26)) ++ (r27 ++ r28)) ++ (r29 ++ r30)) ++ (r31 ++ r32), 0)
                      else none
                    else none
                  else none
                else none
              else none
            else none
          else none
        else none
      else
        if r22 = 2 then
          (F44 n a0.Value.Text).bind fun (r23 : ByteArray) =>
          (F45 n a0.Value.N).bind fun (r24 : ByteArray) =>
          if r23.size + r24.size ≤ 9223372036854775807 then
            if s20.size + (r23 ++ r24).size ≤ 9223372036854775807 then
              some (s20 ++ (r23 ++ r24), 0)
            else none
          else none
        else
          none
theorem F34_j21_ok (n : Nat) (a0 : Command) (s20 : ByteArray) : Sim Try.prog D (n + 8) p34c45 [(1, qp 1 0), (4, qs s20)] [(1, some (.cells (Command.cells a0)))] (F34_j21 n a0 s20) (QF false pc34_r 0 F34_e) := by
    unfold F34_j21
    refine Sim.seq (.seq (.rg [(1, qp 1 0), (4, qs s20)] [(1, some (.cells (Command.cells a0)))] (.open (og := F57s0 n a0) (fun r22 hr22 => ?_))))
    refine SimI.ite (c := r22 = 0) (fun cr22 => ?_) (fun _ => ?_)
    · exact SimI.step ⟨some 36, POp.gcall false false [1, 300000, 300001, 300002, 300003, 300004, 300005, 300006, 300007] [[]] 57 [1], none, []⟩ [(36, .one (.view 1 0 fun _ => []))] [(1, some (.cells (Command.cells a0)))] (by kernel_rfl) (pOp_eff (by kernel_rfl) (by kernel_rfl) (eff_gcall (ks := [1]) (rks := []) (new := []) (ARGS := [qp 1 0]) (args1 := [qp 1 0]) (args2 := [qp 1000000 0]) (os := [.cells (Command.cells a0)]) (os' := [.cells (Command.cells a0)]) (os1 := [.cells (Command.cells a0)]) (res := .one (.view 1 0 fun _ => [])) (res1 := .one (.view 1 0 fun _ => [])) (r := .one (.view 1 0 fun _ => [])) (N := [(1, some (.cells (Command.cells a0)))]) (by kernel_rfl) (readA_ow (readA_keep (by kernel_rfl) (readA_nil))) (by kernel_rfl) (by kernel_rfl) (by kernel_rfl) (by kernel_rfl) ((F57s0_ok n a0 r22 hr22).trans (congrArg some (F57s0_e_0 a0 r22 cr22))) (by kernel_rfl) (by kernel_rfl) (by kernel_rfl) rfl (by kernel_rfl) (by kernel_rfl) (by kernel_rfl))) (.rd 2 [(38, qj 0), (37, qj 0)] [] (.thenN (.block (.loop (.succ (.seq (.rg [(4, qs s20), (36, .one (.view 1 0 fun _ => [])), (37, qj 0), (38, qj 0)] [] (.rd 1 [(39, qb false)] [] (.thenN (.seq (.condF (by kernel_rfl) (.exit (.thenX (.loopX (.blockX (.thenN (.sr 3 [(3, qj 0), (2, qs s20), (56, qs s20)] [] (.ret .fn))))))))))))))))))
    · refine SimI.ite (c := r22 = 1) (fun cr22 => ?_) (fun _ => ?_)
      · refine SimI.step ⟨some 36, POp.gcall false false [1, 300000, 300001, 300002, 300003, 300004, 300005, 300006, 300007] [[]] 57 [1], none, []⟩ [(36, .one (.csl 300000 1 0 4))] [(1, some (.cells (Command.cells a0))), (300000, some (.cells [.ptr 1 6, .ptr 1 8, .ptr 1 10, .ptr 1 12]))] (by kernel_rfl) (pOp_eff (by kernel_rfl) (by kernel_rfl) (eff_gcall (ks := [1]) (rks := []) (new := [300000]) (ARGS := [qp 1 0]) (args1 := [qp 1 0]) (args2 := [qp 1000000 0]) (os := [.cells (Command.cells a0)]) (os' := [.cells (Command.cells a0), .cells [.ptr 1000000 6, .ptr 1000000 8, .ptr 1000000 10, .ptr 1000000 12]]) (os1 := [.cells (Command.cells a0), .cells [.ptr 1000000 6, .ptr 1000000 8, .ptr 1000000 10, .ptr 1000000 12]]) (res := .one (.csl 1000001 1 0 4)) (res1 := .one (.csl 1000001 1 0 4)) (r := .one (.csl 300000 1 0 4)) (N := [(1, some (.cells (Command.cells a0))), (300000, some (.cells [.ptr 1 6, .ptr 1 8, .ptr 1 10, .ptr 1 12]))]) (by kernel_rfl) (readA_ow (readA_keep (by kernel_rfl) (readA_nil))) (by kernel_rfl) (by kernel_rfl) (by kernel_rfl) (by kernel_rfl) ((F57s0_ok n a0 r22 hr22).trans (congrArg some (F57s0_e_1 a0 r22 cr22))) (by kernel_rfl) (by kernel_rfl) (by kernel_rfl) rfl (by kernel_rfl) (by kernel_rfl) (by kernel_rfl))) (.rd 2 [(38, qj 0), (37, qj 4)] [] (.thenN (.block (.loop (.succ (.seq (.rg [(4, qs s20), (36, .one (.csl 300000 1 0 4)), (37, qj 4), (38, qj 0)] [(1, some (.cells (Command.cells a0))), (300000, some (.cells [.ptr 1 6, .ptr 1 8, .ptr 1 10, .ptr 1 12]))] (.rd 1 [(39, qb true)] [] (.thenN (.seq (.condT (by kernel_rfl) (.skip (.thenN (.seq (.block (.sr 3 [(8, qp 1 6), (41, qp 1 6), (40, qp 300000 0)] [] (.region0 (.rn 5 [(46, qs a0.F.a0.Text), (45, qp 1 7), (44, qp 1 6), (43, qp 1 6), (42, qs s20)] [] (.bind (og := F44 n a0.F.a0.Text) ⟨some 47, POp.call false [[]] 44 [46], none, [(46, Hint.imm)]⟩ (fun r25 => [(47, qs r25)]) (fun r25 => []) (by kernel_rfl) (fun r25 hr => pOp_eff (by kernel_rfl) (by kernel_rfl) (eff_call (ARGS := [qs a0.F.a0.Text]) (by kernel_rfl) (args_clean (by kernel_rfl) args_nil) (F44_ok n a0.F.a0.Text r25 hr) (by kernel_rfl))) (fun r25 => ?_))))))))))))))))))))
        refine SimI.rn 4 [(51, qj a0.F.a0.N), (50, qp 1 6), (49, qp 1 6), (48, qp 1 6)] [] (.bind (og := F45 n a0.F.a0.N) ⟨some 52, POp.call false [[]] 45 [51], none, [(51, Hint.imm)]⟩ (fun r26 => [(52, qs r26)]) (fun r26 => []) (by kernel_rfl) (fun r26 hr => pOp_eff (by kernel_rfl) (by kernel_rfl) (eff_call (ARGS := [qj a0.F.a0.N]) (by kernel_rfl) (args_clean (by kernel_rfl) args_nil) (F45_ok n a0.F.a0.N r26 hr) (by kernel_rfl))) (fun r26 => ?_))
        refine SimI.guard (c := r25.size + r26.size ≤ 9223372036854775807) ⟨some 53, POp.prim (Prim.bin BinOp.add 9 false false) [47, 52], none, [(47, Hint.imm), (52, Hint.imm)]⟩ [(53, qs (r25 ++ r26))] [] (by kernel_rfl) (fun hc => pOp_eff (by kernel_rfl) (by kernel_rfl) (eff_prim (by kernel_rfl) (pr_addS _ _ _ r25 r26 hc))) (.guard (c := s20.size + (r25 ++ r26).size ≤ 9223372036854775807) ⟨some 54, POp.prim (Prim.bin BinOp.add 9 false false) [42, 53], none, [(42, Hint.imm), (53, Hint.imm)]⟩ [(54, qs (s20 ++ (r25 ++ r26)))] [] (by kernel_rfl) (fun hc => pOp_eff (by kernel_rfl) (by kernel_rfl) (eff_prim (by kernel_rfl) (pr_addS _ _ _ s20 (r25 ++ r26) hc))) (.rd 1 [(4, qs (s20 ++ (r25 ++ r26)))] [] (.blockN (.thenN (.region0 (.rd 2 [(38, qj 1), (55, qj 1)] [] (.loopN (.succ (.seq (.rg [(4, qs (s20 ++ (r25 ++ r26))), (36, .one (.csl 300000 1 0 4)), (37, qj 4), (38, qj 1)] [(1, some (.cells (Command.cells a0))), (300000, some (.cells [.ptr 1 6, .ptr 1 8, .ptr 1 10, .ptr 1 12]))] (.rd 1 [(39, qb true)] [] (.thenN (.seq (.condT (by kernel_rfl) (.skip (.thenN (.seq (.block (.sr 3 [(8, qp 1 8), (41, qp 1 8), (40, qp 300000 1)] [] (.region0 (.rn 5 [(46, qs a0.F.a1.Text), (45, qp 1 9), (44, qp 1 8), (43, qp 1 8), (42, qs (s20 ++ (r25 ++ r26)))] [] (.bind (og := F44 n a0.F.a1.Text) ⟨some 47, POp.call false [[]] 44 [46], none, [(46, Hint.imm)]⟩ (fun r27 => [(47, qs r27)]) (fun r27 => []) (by kernel_rfl) (fun r27 hr => pOp_eff (by kernel_rfl) (by kernel_rfl) (eff_call (ARGS := [qs a0.F.a1.Text]) (by kernel_rfl) (args_clean (by kernel_rfl) args_nil) (F44_ok n a0.F.a1.Text r27 hr) (by kernel_rfl))) (fun r27 => ?_)))))))))))))))))))))))
        refine SimI.rn 4 [(51, qj a0.F.a1.N), (50, qp 1 8), (49, qp 1 8), (48, qp 1 8)] [] (.bind (og := F45 n a0.F.a1.N) ⟨some 52, POp.call false [[]] 45 [51], none, [(51, Hint.imm)]⟩ (fun r28 => [(52, qs r28)]) (fun r28 => []) (by kernel_rfl) (fun r28 hr => pOp_eff (by kernel_rfl) (by kernel_rfl) (eff_call (ARGS := [qj a0.F.a1.N]) (by kernel_rfl) (args_clean (by kernel_rfl) args_nil) (F45_ok n a0.F.a1.N r28 hr) (by kernel_rfl))) (fun r28 => ?_))
        refine SimI.guard (c := r27.size + r28.size ≤ 9223372036854775807) ⟨some 53, POp.prim (Prim.bin BinOp.add 9 false false) [47, 52], none, [(47, Hint.imm), (52, Hint.imm)]⟩ [(53, qs (r27 ++ r28))] [] (by kernel_rfl) (fun hc => pOp_eff (by kernel_rfl) (by kernel_rfl) (eff_prim (by kernel_rfl) (pr_addS _ _ _ r27 r28 hc))) (.guard (c := (s20 ++ (r25 ++ r26)).size + (r27 ++ r28).size ≤ 9223372036854775807) ⟨some 54, POp.prim (Prim.bin BinOp.add 9 false false) [42, 53], none, [(42, Hint.imm), (53, Hint.imm)]⟩ [(54, qs ((s20 ++ (r25 ++ r26)) ++ (r27 ++ r28)))] [] (by kernel_rfl) (fun hc => pOp_eff (by kernel_rfl) (by kernel_rfl) (eff_prim (by kernel_rfl) (pr_addS _ _ _ (s20 ++ (r25 ++ r26)) (r27 ++ r28) hc))) (.rd 1 [(4, qs ((s20 ++ (r25 ++ r26)) ++ (r27 ++ r28)))] [] (.blockN (.thenN (.region0 (.rd 2 [(38, qj 2), (55, qj 2)] [] (.loopN (.succ (.seq (.rg [(4, qs ((s20 ++ (r25 ++ r26)) ++ (r27 ++ r28))), (36, .one (.csl 300000 1 0 4)), (37, qj 4), (38, qj 2)] [(1, some (.cells (Command.cells a0))), (300000, some (.cells [.ptr 1 6, .ptr 1 8, .ptr 1 10, .ptr 1 12]))] (.rd 1 [(39, qb true)] [] (.thenN (.seq (.condT (by kernel_rfl) (.skip (.thenN (.seq (.block (.sr 3 [(8, qp 1 10), (41, qp 1 10), (40, qp 300000 2)] [] (.region0 (.rn 5 [(46, qs a0.F.a2.Text), (45, qp 1 11), (44, qp 1 10), (43, qp 1 10), (42, qs ((s20 ++ (r25 ++ r26)) ++ (r27 ++ r28)))] [] (.bind (og := F44 n a0.F.a2.Text) ⟨some 47, POp.call false [[]] 44 [46], none, [(46, Hint.imm)]⟩ (fun r29 => [(47, qs r29)]) (fun r29 => []) (by kernel_rfl) (fun r29 hr => pOp_eff (by kernel_rfl) (by kernel_rfl) (eff_call (ARGS := [qs a0.F.a2.Text]) (by kernel_rfl) (args_clean (by kernel_rfl) args_nil) (F44_ok n a0.F.a2.Text r29 hr) (by kernel_rfl))) (fun r29 => ?_)))))))))))))))))))))))
        refine SimI.rn 4 [(51, qj a0.F.a2.N), (50, qp 1 10), (49, qp 1 10), (48, qp 1 10)] [] (.bind (og := F45 n a0.F.a2.N) ⟨some 52, POp.call false [[]] 45 [51], none, [(51, Hint.imm)]⟩ (fun r30 => [(52, qs r30)]) (fun r30 => []) (by kernel_rfl) (fun r30 hr => pOp_eff (by kernel_rfl) (by kernel_rfl) (eff_call (ARGS := [qj a0.F.a2.N]) (by kernel_rfl) (args_clean (by kernel_rfl) args_nil) (F45_ok n a0.F.a2.N r30 hr) (by kernel_rfl))) (fun r30 => ?_))
        refine SimI.guard (c := r29.size + r30.size ≤ 9223372036854775807) ⟨some 53, POp.prim (Prim.bin BinOp.add 9 false false) [47, 52], none, [(47, Hint.imm), (52, Hint.imm)]⟩ [(53, qs (r29 ++ r30))] [] (by kernel_rfl) (fun hc => pOp_eff (by kernel_rfl) (by kernel_rfl) (eff_prim (by kernel_rfl) (pr_addS _ _ _ r29 r30 hc))) (.guard (c := ((s20 ++ (r25 ++ r26)) ++ (r27 ++ r28)).size + (r29 ++ r30).size ≤ 9223372036854775807) ⟨some 54, POp.prim (Prim.bin BinOp.add 9 false false) [42, 53], none, [(42, Hint.imm), (53, Hint.imm)]⟩ [(54, qs (((s20 ++ (r25 ++ r26)) ++ (r27 ++ r28)) ++ (r29 ++ r30)))] [] (by kernel_rfl) (fun hc => pOp_eff (by kernel_rfl) (by kernel_rfl) (eff_prim (by kernel_rfl) (pr_addS _ _ _ ((s20 ++ (r25 ++ r26)) ++ (r27 ++ r28)) (r29 ++ r30) hc))) (.rd 1 [(4, qs (((s20 ++ (r25 ++ r26)) ++ (r27 ++ r28)) ++ (r29 ++ r30)))] [] (.blockN (.thenN (.region0 (.rd 2 [(38, qj 3), (55, qj 3)] [] (.loopN (.succ (.seq (.rg [(4, qs (((s20 ++ (r25 ++ r26)) ++ (r27 ++ r28)) ++ (r29 ++ r30))), (36, .one (.csl 300000 1 0 4)), (37, qj 4), (38, qj 3)] [(1, some (.cells (Command.cells a0))), (300000, some (.cells [.ptr 1 6, .ptr 1 8, .ptr 1 10, .ptr 1 12]))] (.rd 1 [(39, qb true)] [] (.thenN (.seq (.condT (by kernel_rfl) (.skip (.thenN (.seq (.block (.sr 3 [(8, qp 1 12), (41, qp 1 12), (40, qp 300000 3)] [] (.region0 (.rn 5 [(46, qs a0.F.a3.Text), (45, qp 1 13), (44, qp 1 12), (43, qp 1 12), (42, qs (((s20 ++ (r25 ++ r26)) ++ (r27 ++ r28)) ++ (r29 ++ r30)))] [] (.bind (og := F44 n a0.F.a3.Text) ⟨some 47, POp.call false [[]] 44 [46], none, [(46, Hint.imm)]⟩ (fun r31 => [(47, qs r31)]) (fun r31 => []) (by kernel_rfl) (fun r31 hr => pOp_eff (by kernel_rfl) (by kernel_rfl) (eff_call (ARGS := [qs a0.F.a3.Text]) (by kernel_rfl) (args_clean (by kernel_rfl) args_nil) (F44_ok n a0.F.a3.Text r31 hr) (by kernel_rfl))) (fun r31 => ?_)))))))))))))))))))))))
        refine SimI.rn 4 [(51, qj a0.F.a3.N), (50, qp 1 12), (49, qp 1 12), (48, qp 1 12)] [] (.bind (og := F45 n a0.F.a3.N) ⟨some 52, POp.call false [[]] 45 [51], none, [(51, Hint.imm)]⟩ (fun r32 => [(52, qs r32)]) (fun r32 => []) (by kernel_rfl) (fun r32 hr => pOp_eff (by kernel_rfl) (by kernel_rfl) (eff_call (ARGS := [qj a0.F.a3.N]) (by kernel_rfl) (args_clean (by kernel_rfl) args_nil) (F45_ok n a0.F.a3.N r32 hr) (by kernel_rfl))) (fun r32 => ?_))
        exact SimI.guard (c := r31.size + r32.size ≤ 9223372036854775807) ⟨some 53, POp.prim (Prim.bin BinOp.add 9 false false) [47, 52], none, [(47, Hint.imm), (52, Hint.imm)]⟩ [(53, qs (r31 ++ r32))] [] (by kernel_rfl) (fun hc => pOp_eff (by kernel_rfl) (by kernel_rfl) (eff_prim (by kernel_rfl) (pr_addS _ _ _ r31 r32 hc))) (.guard (c := (((s20 ++ (r25 ++ r26)) ++ (r27 ++ r28)) ++ (r29 ++ r30)).size + (r31 ++ r32).size ≤ 9223372036854775807) ⟨some 54, POp.prim (Prim.bin BinOp.add 9 false false) [42, 53], none, [(42, Hint.imm), (53, Hint.imm)]⟩ [(54, qs ((((s20 ++ (r25 ++ r26)) ++ (r27 ++ r28)) ++ (r29 ++ r30)) ++ (r31 ++ r32)))] [] (by kernel_rfl) (fun hc => pOp_eff (by kernel_rfl) (by kernel_rfl) (eff_prim (by kernel_rfl) (pr_addS _ _ _ (((s20 ++ (r25 ++ r26)) ++ (r27 ++ r28)) ++ (r29 ++ r30)) (r31 ++ r32) hc))) (.rd 1 [(4, qs ((((s20 ++ (r25 ++ r26)) ++ (r27 ++ r28)) ++ (r29 ++ r30)) ++ (r31 ++ r32)))] [] (.blockN (.thenN (.region0 (.rd 2 [(38, qj 4), (55, qj 4)] [] (.loopN (.succ (.seq (.rg [(4, qs ((((s20 ++ (r25 ++ r26)) ++ (r27 ++ r28)) ++ (r29 ++ r30)) ++ (r31 ++ r32))), (36, .one (.csl 300000 1 0 4)), (37, qj 4), (38, qj 4)] [(1, some (.cells (Command.cells a0))), (300000, some (.cells [.ptr 1 6, .ptr 1 8, .ptr 1 10, .ptr 1 12]))] (.rd 1 [(39, qb false)] [] (.thenN (.seq (.condF (by kernel_rfl) (.exit (.thenX (.loopX (.blockX (.thenN (.sr 3 [(3, qj 0), (2, qs ((((s20 ++ (r25 ++ r26)) ++ (r27 ++ r28)) ++ (r29 ++ r30)) ++ (r31 ++ r32))), (56, qs ((((s20 ++ (r25 ++ r26)) ++ (r27 ++ r28)) ++ (r29 ++ r30)) ++ (r31 ++ r32)))] [] (.ret .fn)))))))))))))))))))))
      · refine SimI.ite (c := r22 = 2) (fun cr22 => ?_) (fun _ => ?_)
        · refine SimI.step ⟨some 36, POp.gcall false false [1, 300000, 300001, 300002, 300003, 300004, 300005, 300006, 300007] [[]] 57 [1], none, []⟩ [(36, .one (.csl 300000 1 0 1))] [(1, some (.cells (Command.cells a0))), (300000, some (.cells [.ptr 1 14]))] (by kernel_rfl) (pOp_eff (by kernel_rfl) (by kernel_rfl) (eff_gcall (ks := [1]) (rks := []) (new := [300000]) (ARGS := [qp 1 0]) (args1 := [qp 1 0]) (args2 := [qp 1000000 0]) (os := [.cells (Command.cells a0)]) (os' := [.cells (Command.cells a0), .cells [.ptr 1000000 14]]) (os1 := [.cells (Command.cells a0), .cells [.ptr 1000000 14]]) (res := .one (.csl 1000001 1 0 1)) (res1 := .one (.csl 1000001 1 0 1)) (r := .one (.csl 300000 1 0 1)) (N := [(1, some (.cells (Command.cells a0))), (300000, some (.cells [.ptr 1 14]))]) (by kernel_rfl) (readA_ow (readA_keep (by kernel_rfl) (readA_nil))) (by kernel_rfl) (by kernel_rfl) (by kernel_rfl) (by kernel_rfl) ((F57s0_ok n a0 r22 hr22).trans (congrArg some (F57s0_e_2 a0 r22 cr22))) (by kernel_rfl) (by kernel_rfl) (by kernel_rfl) rfl (by kernel_rfl) (by kernel_rfl) (by kernel_rfl))) (.rd 2 [(38, qj 0), (37, qj 1)] [] (.thenN (.block (.loop (.succ (.seq (.rg [(4, qs s20), (36, .one (.csl 300000 1 0 1)), (37, qj 1), (38, qj 0)] [(1, some (.cells (Command.cells a0))), (300000, some (.cells [.ptr 1 14]))] (.rd 1 [(39, qb true)] [] (.thenN (.seq (.condT (by kernel_rfl) (.skip (.thenN (.seq (.block (.sr 3 [(8, qp 1 14), (41, qp 1 14), (40, qp 300000 0)] [] (.region0 (.rn 5 [(46, qs a0.Value.Text), (45, qp 1 15), (44, qp 1 14), (43, qp 1 14), (42, qs s20)] [] (.bind (og := F44 n a0.Value.Text) ⟨some 47, POp.call false [[]] 44 [46], none, [(46, Hint.imm)]⟩ (fun r23 => [(47, qs r23)]) (fun r23 => []) (by kernel_rfl) (fun r23 hr => pOp_eff (by kernel_rfl) (by kernel_rfl) (eff_call (ARGS := [qs a0.Value.Text]) (by kernel_rfl) (args_clean (by kernel_rfl) args_nil) (F44_ok n a0.Value.Text r23 hr) (by kernel_rfl))) (fun r23 => ?_))))))))))))))))))))
          refine SimI.rn 4 [(51, qj a0.Value.N), (50, qp 1 14), (49, qp 1 14), (48, qp 1 14)] [] (.bind (og := F45 n a0.Value.N) ⟨some 52, POp.call false [[]] 45 [51], none, [(51, Hint.imm)]⟩ (fun r24 => [(52, qs r24)]) (fun r24 => []) (by kernel_rfl) (fun r24 hr => pOp_eff (by kernel_rfl) (by kernel_rfl) (eff_call (ARGS := [qj a0.Value.N]) (by kernel_rfl) (args_clean (by kernel_rfl) args_nil) (F45_ok n a0.Value.N r24 hr) (by kernel_rfl))) (fun r24 => ?_))
          exact SimI.guard (c := r23.size + r24.size ≤ 9223372036854775807) ⟨some 53, POp.prim (Prim.bin BinOp.add 9 false false) [47, 52], none, [(47, Hint.imm), (52, Hint.imm)]⟩ [(53, qs (r23 ++ r24))] [] (by kernel_rfl) (fun hc => pOp_eff (by kernel_rfl) (by kernel_rfl) (eff_prim (by kernel_rfl) (pr_addS _ _ _ r23 r24 hc))) (.guard (c := s20.size + (r23 ++ r24).size ≤ 9223372036854775807) ⟨some 54, POp.prim (Prim.bin BinOp.add 9 false false) [42, 53], none, [(42, Hint.imm), (53, Hint.imm)]⟩ [(54, qs (s20 ++ (r23 ++ r24)))] [] (by kernel_rfl) (fun hc => pOp_eff (by kernel_rfl) (by kernel_rfl) (eff_prim (by kernel_rfl) (pr_addS _ _ _ s20 (r23 ++ r24) hc))) (.rd 1 [(4, qs (s20 ++ (r23 ++ r24)))] [] (.blockN (.thenN (.region0 (.rd 2 [(38, qj 1), (55, qj 1)] [] (.loopN (.succ (.seq (.rg [(4, qs (s20 ++ (r23 ++ r24))), (36, .one (.csl 300000 1 0 1)), (37, qj 1), (38, qj 1)] [(1, some (.cells (Command.cells a0))), (300000, some (.cells [.ptr 1 14]))] (.rd 1 [(39, qb false)] [] (.thenN (.seq (.condF (by kernel_rfl) (.exit (.thenX (.loopX (.blockX (.thenN (.sr 3 [(3, qj 0), (2, qs (s20 ++ (r23 ++ r24))), (56, qs (s20 ++ (r23 ++ r24)))] [] (.ret .fn)))))))))))))))))))))
        · exact SimI.vac rfl

def F34 (n : Nat) (a0 : Command) : Option (ByteArray × Int) :=
  (F35 n a0).bind fun (r1 : Bool) =>
  if !(r1) then
    some (ByteArray.empty, 11)
  else
    (F45 n a0.Kind).bind fun (r2 : ByteArray) =>
    (F45 n a0.Client).bind fun (r3 : ByteArray) =>
    if r2.size + r3.size ≤ 9223372036854775807 then
      (F45 n a0.Session).bind fun (r4 : ByteArray) =>
      if (r2 ++ r3).size + r4.size ≤ 9223372036854775807 then
        (F56s0 n a0).bind fun (r5 : Nat) =>
        if r5 = 0 then
          F34_j21 n a0 ((r2 ++ r3) ++ r4)
        else
          if r5 = 1 then
            (F45 n a0.At.X).bind fun (r18 : ByteArray) =>
            if ((r2 ++ r3) ++ r4).size + r18.size ≤ 9223372036854775807 then
              (F45 n a0.At.Y).bind fun (r19 : ByteArray) =>
              if (((r2 ++ r3) ++ r4) ++ r18).size + r19.size ≤ 9223372036854775807 then
                F34_j21 n a0 ((((r2 ++ r3) ++ r4) ++ r18) ++ r19)
              else none
            else none
          else
            if r5 = 2 then
              (F45 n a0.ID).bind fun (r15 : ByteArray) =>
              if ((r2 ++ r3) ++ r4).size + r15.size ≤ 9223372036854775807 then
                (F45 n a0.At.X).bind fun (r16 : ByteArray) =>
                if (((r2 ++ r3) ++ r4) ++ r15).size + r16.size ≤ 9223372036854775807 then
                  (F45 n a0.At.Y).bind fun (r17 : ByteArray) =>
                  if ((((r2 ++ r3) ++ r4) ++ r15) ++ r16).size + r17.size ≤ 9223372036854775807 then
                    F34_j21 n a0 (((((r2 ++ r3) ++ r4) ++ r15) ++ r16) ++ r17)
                  else none
                else none
              else none
            else
              if r5 = 3 then
                (F45 n a0.ID).bind fun (r13 : ByteArray) =>
                if ((r2 ++ r3) ++ r4).size + r13.size ≤ 9223372036854775807 then
                  (F45 n a0.Which).bind fun (r14 : ByteArray) =>
                  if (((r2 ++ r3) ++ r4) ++ r13).size + r14.size ≤ 9223372036854775807 then
                    F34_j21 n a0 ((((r2 ++ r3) ++ r4) ++ r13) ++ r14)
                  else none
                else none
              else
                if r5 = 4 then
                  (F45 n a0.ID).bind fun (r12 : ByteArray) =>
                  if ((r2 ++ r3) ++ r4).size + r12.size ≤ 9223372036854775807 then
                    F34_j21 n a0 (((r2 ++ r3) ++ r4) ++ r12)
                  else none
                else
                  if r5 = 5 then
                    (F45 n a0.Which).bind fun (r10 : ByteArray) =>
                    if ((r2 ++ r3) ++ r4).size + r10.size ≤ 9223372036854775807 then
                      (F45 n a0.To).bind fun (r11 : ByteArray) =>
                      if (((r2 ++ r3) ++ r4) ++ r10).size + r11.size ≤ 9223372036854775807 then
                        F34_j21 n a0 ((((r2 ++ r3) ++ r4) ++ r10) ++ r11)
                      else none
                    else none
                  else
                    if r5 = 6 then
                      (F45 n a0.Rect.X0).bind fun (r6 : ByteArray) =>
                      if ((r2 ++ r3) ++ r4).size + r6.size ≤ 9223372036854775807 then
                        (F45 n a0.Rect.Y0).bind fun (r7 : ByteArray) =>
                        if (((r2 ++ r3) ++ r4) ++ r6).size + r7.size ≤ 9223372036854775807 then
                          (F45 n a0.Rect.X1).bind fun (r8 : ByteArray) =>
                          if ((((r2 ++ r3) ++ r4) ++ r6) ++ r7).size + r8.size ≤ 9223372036854775807 then
                            (F45 n a0.Rect.Y1).bind fun (r9 : ByteArray) =>
                            if (((((r2 ++ r3) ++ r4) ++ r6) ++ r7) ++ r8).size + r9.size ≤ 9223372036854775807 then
                              F34_j21 n a0 ((((((r2 ++ r3) ++ r4) ++ r6) ++ r7) ++ r8) ++ r9)
                            else none
                          else none
                        else none
                      else none
                    else
                      none
      else none
    else none
theorem F34_ok (n : Nat) (a0 : Command) : ∀ r, F34 n a0 = some r → D 34 [.agg (Command.cells a0)] [] = some (F34_e r) := by
  refine fn_to (D := D) (n := n + 8) (nt := 57) (rs := pc34_r) (c := p34c49) (L := [(0, .agg (Command.cells a0))]) (M := []) (k := 0) rfl rfl rfl rfl rfl rfl rfl ?_
  unfold F34
  refine Sim.sr 3 [(3, qj 0), (2, qs be), (1, qp 1 0)] [(1, some (.cells (Command.cells a0)))] (.seq (.st 1 [(9, .agg (Command.cells a0))] [] (.cl 10 true [[]] 35 [9] none (fun r1 => qb r1) [.agg (Command.cells a0)] (F35_ok n a0) (fun r1 => ?_))))
  refine SimI.rd 1 [(11, qb (!(r1)))] [] (.thenN (.cond (!(r1)) (by kernel_rfl) ?_ ?_))
  · exact Sim.sr 2 [(3, qj 11), (2, qs be)] [] (.ret (.thenR .fn))
  · refine Sim.skip (.thenN (.st 2 [(13, qj a0.Kind), (12, qp 1 0)] [] (.bind (og := F45 n a0.Kind) ⟨some 14, POp.call false [[]] 45 [13], none, [(13, Hint.imm)]⟩ (fun r2 => [(14, qs r2)]) (fun r2 => []) (by kernel_rfl) (fun r2 hr => pOp_eff (by kernel_rfl) (by kernel_rfl) (eff_call (ARGS := [qj a0.Kind]) (by kernel_rfl) (args_clean (by kernel_rfl) args_nil) (F45_ok n a0.Kind r2 hr) (by kernel_rfl))) (fun r2 => ?_))))
    refine SimI.rn 2 [(16, qj a0.Client), (15, qp 1 16)] [] (.bind (og := F45 n a0.Client) ⟨some 17, POp.call false [[]] 45 [16], none, [(16, Hint.imm)]⟩ (fun r3 => [(17, qs r3)]) (fun r3 => []) (by kernel_rfl) (fun r3 hr => pOp_eff (by kernel_rfl) (by kernel_rfl) (eff_call (ARGS := [qj a0.Client]) (by kernel_rfl) (args_clean (by kernel_rfl) args_nil) (F45_ok n a0.Client r3 hr) (by kernel_rfl))) (fun r3 => ?_))
    refine SimI.guard (c := r2.size + r3.size ≤ 9223372036854775807) ⟨some 18, POp.prim (Prim.bin BinOp.add 9 false false) [14, 17], none, [(14, Hint.imm), (17, Hint.imm)]⟩ [(18, qs (r2 ++ r3))] [] (by kernel_rfl) (fun hc => pOp_eff (by kernel_rfl) (by kernel_rfl) (eff_prim (by kernel_rfl) (pr_addS _ _ _ r2 r3 hc))) (.rn 2 [(20, qj a0.Session), (19, qp 1 17)] [] (.bind (og := F45 n a0.Session) ⟨some 21, POp.call false [[]] 45 [20], none, [(20, Hint.imm)]⟩ (fun r4 => [(21, qs r4)]) (fun r4 => []) (by kernel_rfl) (fun r4 hr => pOp_eff (by kernel_rfl) (by kernel_rfl) (eff_call (ARGS := [qj a0.Session]) (by kernel_rfl) (args_clean (by kernel_rfl) args_nil) (F45_ok n a0.Session r4 hr) (by kernel_rfl))) (fun r4 => ?_)))
    refine SimI.guard (c := (r2 ++ r3).size + r4.size ≤ 9223372036854775807) ⟨some 22, POp.prim (Prim.bin BinOp.add 9 false false) [18, 21], none, [(18, Hint.imm), (21, Hint.imm)]⟩ [(22, qs ((r2 ++ r3) ++ r4))] [] (by kernel_rfl) (fun hc => pOp_eff (by kernel_rfl) (by kernel_rfl) (eff_prim (by kernel_rfl) (pr_addS _ _ _ (r2 ++ r3) r4 hc))) (.rd 1 [(4, qs ((r2 ++ r3) ++ r4))] [] (.thenN (.seq (.seq (.region0 (.open (og := F56s0 n a0) (fun r5 hr5 => ?_)))))))
    refine SimI.ite (c := r5 = 0) (fun cr5 => ?_) (fun _ => ?_)
    · refine SimI.step ⟨some 23, POp.gcall false false [1, 300000, 300001, 300002, 300003, 300004, 300005, 300006, 300007] [[]] 56 [1], none, []⟩ [(23, .one (.view 1 0 fun _ => []))] [(1, some (.cells (Command.cells a0)))] (by kernel_rfl) (pOp_eff (by kernel_rfl) (by kernel_rfl) (eff_gcall (ks := [1]) (rks := []) (new := []) (ARGS := [qp 1 0]) (args1 := [qp 1 0]) (args2 := [qp 1000000 0]) (os := [.cells (Command.cells a0)]) (os' := [.cells (Command.cells a0)]) (os1 := [.cells (Command.cells a0)]) (res := .one (.view 1 0 fun _ => [])) (res1 := .one (.view 1 0 fun _ => [])) (r := .one (.view 1 0 fun _ => [])) (N := [(1, some (.cells (Command.cells a0)))]) (by kernel_rfl) (readA_ow (readA_keep (by kernel_rfl) (readA_nil))) (by kernel_rfl) (by kernel_rfl) (by kernel_rfl) (by kernel_rfl) ((F56s0_ok n a0 r5 hr5).trans (congrArg some (F56s0_e_0 a0 r5 cr5))) (by kernel_rfl) (by kernel_rfl) (by kernel_rfl) rfl (by kernel_rfl) (by kernel_rfl) (by kernel_rfl))) (.rd 2 [(25, qj 0), (24, qj 0)] [] (.thenN (.block (.loop (.succ (.seq (.rg [(1, qp 1 0), (4, qs ((r2 ++ r3) ++ r4)), (23, .one (.view 1 0 fun _ => [])), (24, qj 0), (25, qj 0)] [(1, some (.cells (Command.cells a0)))] (.rd 1 [(26, qb false)] [] (.thenN (.seq (.condF (by kernel_rfl) (.exit (.thenX (.loopX (.blockX (.thenN (.pr [1, 4] [1, 300000] [] [(1, qp 1 0), (4, qs ((r2 ++ r3) ++ r4))] [(1, some (.cells (Command.cells a0)))] ?_)))))))))))))))))
      exact F34_j21_ok n a0 ((r2 ++ r3) ++ r4)
    · refine SimI.ite (c := r5 = 1) (fun cr5 => ?_) (fun _ => ?_)
      · refine SimI.step ⟨some 23, POp.gcall false false [1, 300000, 300001, 300002, 300003, 300004, 300005, 300006, 300007] [[]] 56 [1], none, []⟩ [(23, .one (.csl 300000 1 0 2))] [(1, some (.cells (Command.cells a0))), (300000, some (.cells [.ptr 1 4, .ptr 1 5]))] (by kernel_rfl) (pOp_eff (by kernel_rfl) (by kernel_rfl) (eff_gcall (ks := [1]) (rks := []) (new := [300000]) (ARGS := [qp 1 0]) (args1 := [qp 1 0]) (args2 := [qp 1000000 0]) (os := [.cells (Command.cells a0)]) (os' := [.cells (Command.cells a0), .cells [.ptr 1000000 4, .ptr 1000000 5]]) (os1 := [.cells (Command.cells a0), .cells [.ptr 1000000 4, .ptr 1000000 5]]) (res := .one (.csl 1000001 1 0 2)) (res1 := .one (.csl 1000001 1 0 2)) (r := .one (.csl 300000 1 0 2)) (N := [(1, some (.cells (Command.cells a0))), (300000, some (.cells [.ptr 1 4, .ptr 1 5]))]) (by kernel_rfl) (readA_ow (readA_keep (by kernel_rfl) (readA_nil))) (by kernel_rfl) (by kernel_rfl) (by kernel_rfl) (by kernel_rfl) ((F56s0_ok n a0 r5 hr5).trans (congrArg some (F56s0_e_1 a0 r5 cr5))) (by kernel_rfl) (by kernel_rfl) (by kernel_rfl) rfl (by kernel_rfl) (by kernel_rfl) (by kernel_rfl))) (.rd 2 [(25, qj 0), (24, qj 2)] [] (.thenN (.block (.loop (.succ (.seq (.rg [(1, qp 1 0), (4, qs ((r2 ++ r3) ++ r4)), (23, .one (.csl 300000 1 0 2)), (24, qj 2), (25, qj 0)] [(1, some (.cells (Command.cells a0))), (300000, some (.cells [.ptr 1 4, .ptr 1 5]))] (.rd 1 [(26, qb true)] [] (.thenN (.seq (.condT (by kernel_rfl) (.skip (.thenN (.seq (.block (.sr 3 [(6, qp 1 4), (28, qp 1 4), (27, qp 300000 0)] [] (.region0 (.rn 4 [(32, qj a0.At.X), (31, qp 1 4), (30, qp 1 4), (29, qs ((r2 ++ r3) ++ r4))] [] (.cl 33 true [[]] 45 [32] none (fun r18 => qs r18) [qj a0.At.X] (F45_ok n a0.At.X) (fun r18 => ?_))))))))))))))))))))
        refine SimI.guard (c := ((r2 ++ r3) ++ r4).size + r18.size ≤ 9223372036854775807) ⟨some 34, POp.prim (Prim.bin BinOp.add 9 false false) [29, 33], none, []⟩ [(34, qs (((r2 ++ r3) ++ r4) ++ r18))] [] (by kernel_rfl) (fun hc => pOp_eff (by kernel_rfl) (by kernel_rfl) (eff_prim (by kernel_rfl) (pr_addS _ _ _ ((r2 ++ r3) ++ r4) r18 hc))) (.rd 1 [(4, qs (((r2 ++ r3) ++ r4) ++ r18))] [] (.blockN (.thenN (.region0 (.rd 2 [(25, qj 1), (35, qj 1)] [] (.loopN (.succ (.seq (.rg [(1, qp 1 0), (4, qs (((r2 ++ r3) ++ r4) ++ r18)), (23, .one (.csl 300000 1 0 2)), (24, qj 2), (25, qj 1)] [(1, some (.cells (Command.cells a0))), (300000, some (.cells [.ptr 1 4, .ptr 1 5]))] (.rd 1 [(26, qb true)] [] (.thenN (.seq (.condT (by kernel_rfl) (.skip (.thenN (.seq (.block (.sr 3 [(6, qp 1 5), (28, qp 1 5), (27, qp 300000 1)] [] (.region0 (.rn 4 [(32, qj a0.At.Y), (31, qp 1 5), (30, qp 1 5), (29, qs (((r2 ++ r3) ++ r4) ++ r18))] [] (.cl 33 true [[]] 45 [32] none (fun r19 => qs r19) [qj a0.At.Y] (F45_ok n a0.At.Y) (fun r19 => ?_))))))))))))))))))))))
        refine SimI.guard (c := (((r2 ++ r3) ++ r4) ++ r18).size + r19.size ≤ 9223372036854775807) ⟨some 34, POp.prim (Prim.bin BinOp.add 9 false false) [29, 33], none, []⟩ [(34, qs ((((r2 ++ r3) ++ r4) ++ r18) ++ r19))] [] (by kernel_rfl) (fun hc => pOp_eff (by kernel_rfl) (by kernel_rfl) (eff_prim (by kernel_rfl) (pr_addS _ _ _ (((r2 ++ r3) ++ r4) ++ r18) r19 hc))) (.rd 1 [(4, qs ((((r2 ++ r3) ++ r4) ++ r18) ++ r19))] [] (.blockN (.thenN (.region0 (.rd 2 [(25, qj 2), (35, qj 2)] [] (.loopN (.succ (.seq (.rg [(1, qp 1 0), (4, qs ((((r2 ++ r3) ++ r4) ++ r18) ++ r19)), (23, .one (.csl 300000 1 0 2)), (24, qj 2), (25, qj 2)] [(1, some (.cells (Command.cells a0))), (300000, some (.cells [.ptr 1 4, .ptr 1 5]))] (.rd 1 [(26, qb false)] [] (.thenN (.seq (.condF (by kernel_rfl) (.exit (.thenX (.loopX (.blockX (.thenN (.pr [1, 4] [1, 300000] [] [(1, qp 1 0), (4, qs ((((r2 ++ r3) ++ r4) ++ r18) ++ r19))] [(1, some (.cells (Command.cells a0)))] ?_)))))))))))))))))))
        exact F34_j21_ok n a0 ((((r2 ++ r3) ++ r4) ++ r18) ++ r19)
      · refine SimI.ite (c := r5 = 2) (fun cr5 => ?_) (fun _ => ?_)
        · refine SimI.step ⟨some 23, POp.gcall false false [1, 300000, 300001, 300002, 300003, 300004, 300005, 300006, 300007] [[]] 56 [1], none, []⟩ [(23, .one (.csl 300000 1 0 3))] [(1, some (.cells (Command.cells a0))), (300000, some (.cells [.ptr 1 1, .ptr 1 4, .ptr 1 5]))] (by kernel_rfl) (pOp_eff (by kernel_rfl) (by kernel_rfl) (eff_gcall (ks := [1]) (rks := []) (new := [300000]) (ARGS := [qp 1 0]) (args1 := [qp 1 0]) (args2 := [qp 1000000 0]) (os := [.cells (Command.cells a0)]) (os' := [.cells (Command.cells a0), .cells [.ptr 1000000 1, .ptr 1000000 4, .ptr 1000000 5]]) (os1 := [.cells (Command.cells a0), .cells [.ptr 1000000 1, .ptr 1000000 4, .ptr 1000000 5]]) (res := .one (.csl 1000001 1 0 3)) (res1 := .one (.csl 1000001 1 0 3)) (r := .one (.csl 300000 1 0 3)) (N := [(1, some (.cells (Command.cells a0))), (300000, some (.cells [.ptr 1 1, .ptr 1 4, .ptr 1 5]))]) (by kernel_rfl) (readA_ow (readA_keep (by kernel_rfl) (readA_nil))) (by kernel_rfl) (by kernel_rfl) (by kernel_rfl) (by kernel_rfl) ((F56s0_ok n a0 r5 hr5).trans (congrArg some (F56s0_e_2 a0 r5 cr5))) (by kernel_rfl) (by kernel_rfl) (by kernel_rfl) rfl (by kernel_rfl) (by kernel_rfl) (by kernel_rfl))) (.rd 2 [(25, qj 0), (24, qj 3)] [] (.thenN (.block (.loop (.succ (.seq (.rg [(1, qp 1 0), (4, qs ((r2 ++ r3) ++ r4)), (23, .one (.csl 300000 1 0 3)), (24, qj 3), (25, qj 0)] [(1, some (.cells (Command.cells a0))), (300000, some (.cells [.ptr 1 1, .ptr 1 4, .ptr 1 5]))] (.rd 1 [(26, qb true)] [] (.thenN (.seq (.condT (by kernel_rfl) (.skip (.thenN (.seq (.block (.sr 3 [(6, qp 1 1), (28, qp 1 1), (27, qp 300000 0)] [] (.region0 (.rn 4 [(32, qj a0.ID), (31, qp 1 1), (30, qp 1 1), (29, qs ((r2 ++ r3) ++ r4))] [] (.cl 33 true [[]] 45 [32] none (fun r15 => qs r15) [qj a0.ID] (F45_ok n a0.ID) (fun r15 => ?_))))))))))))))))))))
          refine SimI.guard (c := ((r2 ++ r3) ++ r4).size + r15.size ≤ 9223372036854775807) ⟨some 34, POp.prim (Prim.bin BinOp.add 9 false false) [29, 33], none, []⟩ [(34, qs (((r2 ++ r3) ++ r4) ++ r15))] [] (by kernel_rfl) (fun hc => pOp_eff (by kernel_rfl) (by kernel_rfl) (eff_prim (by kernel_rfl) (pr_addS _ _ _ ((r2 ++ r3) ++ r4) r15 hc))) (.rd 1 [(4, qs (((r2 ++ r3) ++ r4) ++ r15))] [] (.blockN (.thenN (.region0 (.rd 2 [(25, qj 1), (35, qj 1)] [] (.loopN (.succ (.seq (.rg [(1, qp 1 0), (4, qs (((r2 ++ r3) ++ r4) ++ r15)), (23, .one (.csl 300000 1 0 3)), (24, qj 3), (25, qj 1)] [(1, some (.cells (Command.cells a0))), (300000, some (.cells [.ptr 1 1, .ptr 1 4, .ptr 1 5]))] (.rd 1 [(26, qb true)] [] (.thenN (.seq (.condT (by kernel_rfl) (.skip (.thenN (.seq (.block (.sr 3 [(6, qp 1 4), (28, qp 1 4), (27, qp 300000 1)] [] (.region0 (.rn 4 [(32, qj a0.At.X), (31, qp 1 4), (30, qp 1 4), (29, qs (((r2 ++ r3) ++ r4) ++ r15))] [] (.cl 33 true [[]] 45 [32] none (fun r16 => qs r16) [qj a0.At.X] (F45_ok n a0.At.X) (fun r16 => ?_))))))))))))))))))))))
          refine SimI.guard (c := (((r2 ++ r3) ++ r4) ++ r15).size + r16.size ≤ 9223372036854775807) ⟨some 34, POp.prim (Prim.bin BinOp.add 9 false false) [29, 33], none, []⟩ [(34, qs ((((r2 ++ r3) ++ r4) ++ r15) ++ r16))] [] (by kernel_rfl) (fun hc => pOp_eff (by kernel_rfl) (by kernel_rfl) (eff_prim (by kernel_rfl) (pr_addS _ _ _ (((r2 ++ r3) ++ r4) ++ r15) r16 hc))) (.rd 1 [(4, qs ((((r2 ++ r3) ++ r4) ++ r15) ++ r16))] [] (.blockN (.thenN (.region0 (.rd 2 [(25, qj 2), (35, qj 2)] [] (.loopN (.succ (.seq (.rg [(1, qp 1 0), (4, qs ((((r2 ++ r3) ++ r4) ++ r15) ++ r16)), (23, .one (.csl 300000 1 0 3)), (24, qj 3), (25, qj 2)] [(1, some (.cells (Command.cells a0))), (300000, some (.cells [.ptr 1 1, .ptr 1 4, .ptr 1 5]))] (.rd 1 [(26, qb true)] [] (.thenN (.seq (.condT (by kernel_rfl) (.skip (.thenN (.seq (.block (.sr 3 [(6, qp 1 5), (28, qp 1 5), (27, qp 300000 2)] [] (.region0 (.rn 4 [(32, qj a0.At.Y), (31, qp 1 5), (30, qp 1 5), (29, qs ((((r2 ++ r3) ++ r4) ++ r15) ++ r16))] [] (.cl 33 true [[]] 45 [32] none (fun r17 => qs r17) [qj a0.At.Y] (F45_ok n a0.At.Y) (fun r17 => ?_))))))))))))))))))))))
          refine SimI.guard (c := ((((r2 ++ r3) ++ r4) ++ r15) ++ r16).size + r17.size ≤ 9223372036854775807) ⟨some 34, POp.prim (Prim.bin BinOp.add 9 false false) [29, 33], none, []⟩ [(34, qs (((((r2 ++ r3) ++ r4) ++ r15) ++ r16) ++ r17))] [] (by kernel_rfl) (fun hc => pOp_eff (by kernel_rfl) (by kernel_rfl) (eff_prim (by kernel_rfl) (pr_addS _ _ _ ((((r2 ++ r3) ++ r4) ++ r15) ++ r16) r17 hc))) (.rd 1 [(4, qs (((((r2 ++ r3) ++ r4) ++ r15) ++ r16) ++ r17))] [] (.blockN (.thenN (.region0 (.rd 2 [(25, qj 3), (35, qj 3)] [] (.loopN (.succ (.seq (.rg [(1, qp 1 0), (4, qs (((((r2 ++ r3) ++ r4) ++ r15) ++ r16) ++ r17)), (23, .one (.csl 300000 1 0 3)), (24, qj 3), (25, qj 3)] [(1, some (.cells (Command.cells a0))), (300000, some (.cells [.ptr 1 1, .ptr 1 4, .ptr 1 5]))] (.rd 1 [(26, qb false)] [] (.thenN (.seq (.condF (by kernel_rfl) (.exit (.thenX (.loopX (.blockX (.thenN (.pr [1, 4] [1, 300000] [] [(1, qp 1 0), (4, qs (((((r2 ++ r3) ++ r4) ++ r15) ++ r16) ++ r17))] [(1, some (.cells (Command.cells a0)))] ?_)))))))))))))))))))
          exact F34_j21_ok n a0 (((((r2 ++ r3) ++ r4) ++ r15) ++ r16) ++ r17)
        · refine SimI.ite (c := r5 = 3) (fun cr5 => ?_) (fun _ => ?_)
          · refine SimI.step ⟨some 23, POp.gcall false false [1, 300000, 300001, 300002, 300003, 300004, 300005, 300006, 300007] [[]] 56 [1], none, []⟩ [(23, .one (.csl 300000 1 0 2))] [(1, some (.cells (Command.cells a0))), (300000, some (.cells [.ptr 1 1, .ptr 1 2]))] (by kernel_rfl) (pOp_eff (by kernel_rfl) (by kernel_rfl) (eff_gcall (ks := [1]) (rks := []) (new := [300000]) (ARGS := [qp 1 0]) (args1 := [qp 1 0]) (args2 := [qp 1000000 0]) (os := [.cells (Command.cells a0)]) (os' := [.cells (Command.cells a0), .cells [.ptr 1000000 1, .ptr 1000000 2]]) (os1 := [.cells (Command.cells a0), .cells [.ptr 1000000 1, .ptr 1000000 2]]) (res := .one (.csl 1000001 1 0 2)) (res1 := .one (.csl 1000001 1 0 2)) (r := .one (.csl 300000 1 0 2)) (N := [(1, some (.cells (Command.cells a0))), (300000, some (.cells [.ptr 1 1, .ptr 1 2]))]) (by kernel_rfl) (readA_ow (readA_keep (by kernel_rfl) (readA_nil))) (by kernel_rfl) (by kernel_rfl) (by kernel_rfl) (by kernel_rfl) ((F56s0_ok n a0 r5 hr5).trans (congrArg some (F56s0_e_3 a0 r5 cr5))) (by kernel_rfl) (by kernel_rfl) (by kernel_rfl) rfl (by kernel_rfl) (by kernel_rfl) (by kernel_rfl))) (.rd 2 [(25, qj 0), (24, qj 2)] [] (.thenN (.block (.loop (.succ (.seq (.rg [(1, qp 1 0), (4, qs ((r2 ++ r3) ++ r4)), (23, .one (.csl 300000 1 0 2)), (24, qj 2), (25, qj 0)] [(1, some (.cells (Command.cells a0))), (300000, some (.cells [.ptr 1 1, .ptr 1 2]))] (.rd 1 [(26, qb true)] [] (.thenN (.seq (.condT (by kernel_rfl) (.skip (.thenN (.seq (.block (.sr 3 [(6, qp 1 1), (28, qp 1 1), (27, qp 300000 0)] [] (.region0 (.rn 4 [(32, qj a0.ID), (31, qp 1 1), (30, qp 1 1), (29, qs ((r2 ++ r3) ++ r4))] [] (.cl 33 true [[]] 45 [32] none (fun r13 => qs r13) [qj a0.ID] (F45_ok n a0.ID) (fun r13 => ?_))))))))))))))))))))
            refine SimI.guard (c := ((r2 ++ r3) ++ r4).size + r13.size ≤ 9223372036854775807) ⟨some 34, POp.prim (Prim.bin BinOp.add 9 false false) [29, 33], none, []⟩ [(34, qs (((r2 ++ r3) ++ r4) ++ r13))] [] (by kernel_rfl) (fun hc => pOp_eff (by kernel_rfl) (by kernel_rfl) (eff_prim (by kernel_rfl) (pr_addS _ _ _ ((r2 ++ r3) ++ r4) r13 hc))) (.rd 1 [(4, qs (((r2 ++ r3) ++ r4) ++ r13))] [] (.blockN (.thenN (.region0 (.rd 2 [(25, qj 1), (35, qj 1)] [] (.loopN (.succ (.seq (.rg [(1, qp 1 0), (4, qs (((r2 ++ r3) ++ r4) ++ r13)), (23, .one (.csl 300000 1 0 2)), (24, qj 2), (25, qj 1)] [(1, some (.cells (Command.cells a0))), (300000, some (.cells [.ptr 1 1, .ptr 1 2]))] (.rd 1 [(26, qb true)] [] (.thenN (.seq (.condT (by kernel_rfl) (.skip (.thenN (.seq (.block (.sr 3 [(6, qp 1 2), (28, qp 1 2), (27, qp 300000 1)] [] (.region0 (.rn 4 [(32, qj a0.Which), (31, qp 1 2), (30, qp 1 2), (29, qs (((r2 ++ r3) ++ r4) ++ r13))] [] (.cl 33 true [[]] 45 [32] none (fun r14 => qs r14) [qj a0.Which] (F45_ok n a0.Which) (fun r14 => ?_))))))))))))))))))))))
            refine SimI.guard (c := (((r2 ++ r3) ++ r4) ++ r13).size + r14.size ≤ 9223372036854775807) ⟨some 34, POp.prim (Prim.bin BinOp.add 9 false false) [29, 33], none, []⟩ [(34, qs ((((r2 ++ r3) ++ r4) ++ r13) ++ r14))] [] (by kernel_rfl) (fun hc => pOp_eff (by kernel_rfl) (by kernel_rfl) (eff_prim (by kernel_rfl) (pr_addS _ _ _ (((r2 ++ r3) ++ r4) ++ r13) r14 hc))) (.rd 1 [(4, qs ((((r2 ++ r3) ++ r4) ++ r13) ++ r14))] [] (.blockN (.thenN (.region0 (.rd 2 [(25, qj 2), (35, qj 2)] [] (.loopN (.succ (.seq (.rg [(1, qp 1 0), (4, qs ((((r2 ++ r3) ++ r4) ++ r13) ++ r14)), (23, .one (.csl 300000 1 0 2)), (24, qj 2), (25, qj 2)] [(1, some (.cells (Command.cells a0))), (300000, some (.cells [.ptr 1 1, .ptr 1 2]))] (.rd 1 [(26, qb false)] [] (.thenN (.seq (.condF (by kernel_rfl) (.exit (.thenX (.loopX (.blockX (.thenN (.pr [1, 4] [1, 300000] [] [(1, qp 1 0), (4, qs ((((r2 ++ r3) ++ r4) ++ r13) ++ r14))] [(1, some (.cells (Command.cells a0)))] ?_)))))))))))))))))))
            exact F34_j21_ok n a0 ((((r2 ++ r3) ++ r4) ++ r13) ++ r14)
          · refine SimI.ite (c := r5 = 4) (fun cr5 => ?_) (fun _ => ?_)
            · refine SimI.step ⟨some 23, POp.gcall false false [1, 300000, 300001, 300002, 300003, 300004, 300005, 300006, 300007] [[]] 56 [1], none, []⟩ [(23, .one (.csl 300000 1 0 1))] [(1, some (.cells (Command.cells a0))), (300000, some (.cells [.ptr 1 1]))] (by kernel_rfl) (pOp_eff (by kernel_rfl) (by kernel_rfl) (eff_gcall (ks := [1]) (rks := []) (new := [300000]) (ARGS := [qp 1 0]) (args1 := [qp 1 0]) (args2 := [qp 1000000 0]) (os := [.cells (Command.cells a0)]) (os' := [.cells (Command.cells a0), .cells [.ptr 1000000 1]]) (os1 := [.cells (Command.cells a0), .cells [.ptr 1000000 1]]) (res := .one (.csl 1000001 1 0 1)) (res1 := .one (.csl 1000001 1 0 1)) (r := .one (.csl 300000 1 0 1)) (N := [(1, some (.cells (Command.cells a0))), (300000, some (.cells [.ptr 1 1]))]) (by kernel_rfl) (readA_ow (readA_keep (by kernel_rfl) (readA_nil))) (by kernel_rfl) (by kernel_rfl) (by kernel_rfl) (by kernel_rfl) ((F56s0_ok n a0 r5 hr5).trans (congrArg some (F56s0_e_4 a0 r5 cr5))) (by kernel_rfl) (by kernel_rfl) (by kernel_rfl) rfl (by kernel_rfl) (by kernel_rfl) (by kernel_rfl))) (.rd 2 [(25, qj 0), (24, qj 1)] [] (.thenN (.block (.loop (.succ (.seq (.rg [(1, qp 1 0), (4, qs ((r2 ++ r3) ++ r4)), (23, .one (.csl 300000 1 0 1)), (24, qj 1), (25, qj 0)] [(1, some (.cells (Command.cells a0))), (300000, some (.cells [.ptr 1 1]))] (.rd 1 [(26, qb true)] [] (.thenN (.seq (.condT (by kernel_rfl) (.skip (.thenN (.seq (.block (.sr 3 [(6, qp 1 1), (28, qp 1 1), (27, qp 300000 0)] [] (.region0 (.rn 4 [(32, qj a0.ID), (31, qp 1 1), (30, qp 1 1), (29, qs ((r2 ++ r3) ++ r4))] [] (.cl 33 true [[]] 45 [32] none (fun r12 => qs r12) [qj a0.ID] (F45_ok n a0.ID) (fun r12 => ?_))))))))))))))))))))
              refine SimI.guard (c := ((r2 ++ r3) ++ r4).size + r12.size ≤ 9223372036854775807) ⟨some 34, POp.prim (Prim.bin BinOp.add 9 false false) [29, 33], none, []⟩ [(34, qs (((r2 ++ r3) ++ r4) ++ r12))] [] (by kernel_rfl) (fun hc => pOp_eff (by kernel_rfl) (by kernel_rfl) (eff_prim (by kernel_rfl) (pr_addS _ _ _ ((r2 ++ r3) ++ r4) r12 hc))) (.rd 1 [(4, qs (((r2 ++ r3) ++ r4) ++ r12))] [] (.blockN (.thenN (.region0 (.rd 2 [(25, qj 1), (35, qj 1)] [] (.loopN (.succ (.seq (.rg [(1, qp 1 0), (4, qs (((r2 ++ r3) ++ r4) ++ r12)), (23, .one (.csl 300000 1 0 1)), (24, qj 1), (25, qj 1)] [(1, some (.cells (Command.cells a0))), (300000, some (.cells [.ptr 1 1]))] (.rd 1 [(26, qb false)] [] (.thenN (.seq (.condF (by kernel_rfl) (.exit (.thenX (.loopX (.blockX (.thenN (.pr [1, 4] [1, 300000] [] [(1, qp 1 0), (4, qs (((r2 ++ r3) ++ r4) ++ r12))] [(1, some (.cells (Command.cells a0)))] ?_)))))))))))))))))))
              exact F34_j21_ok n a0 (((r2 ++ r3) ++ r4) ++ r12)
            · refine SimI.ite (c := r5 = 5) (fun cr5 => ?_) (fun _ => ?_)
              · refine SimI.step ⟨some 23, POp.gcall false false [1, 300000, 300001, 300002, 300003, 300004, 300005, 300006, 300007] [[]] 56 [1], none, []⟩ [(23, .one (.csl 300000 1 0 2))] [(1, some (.cells (Command.cells a0))), (300000, some (.cells [.ptr 1 2, .ptr 1 3]))] (by kernel_rfl) (pOp_eff (by kernel_rfl) (by kernel_rfl) (eff_gcall (ks := [1]) (rks := []) (new := [300000]) (ARGS := [qp 1 0]) (args1 := [qp 1 0]) (args2 := [qp 1000000 0]) (os := [.cells (Command.cells a0)]) (os' := [.cells (Command.cells a0), .cells [.ptr 1000000 2, .ptr 1000000 3]]) (os1 := [.cells (Command.cells a0), .cells [.ptr 1000000 2, .ptr 1000000 3]]) (res := .one (.csl 1000001 1 0 2)) (res1 := .one (.csl 1000001 1 0 2)) (r := .one (.csl 300000 1 0 2)) (N := [(1, some (.cells (Command.cells a0))), (300000, some (.cells [.ptr 1 2, .ptr 1 3]))]) (by kernel_rfl) (readA_ow (readA_keep (by kernel_rfl) (readA_nil))) (by kernel_rfl) (by kernel_rfl) (by kernel_rfl) (by kernel_rfl) ((F56s0_ok n a0 r5 hr5).trans (congrArg some (F56s0_e_5 a0 r5 cr5))) (by kernel_rfl) (by kernel_rfl) (by kernel_rfl) rfl (by kernel_rfl) (by kernel_rfl) (by kernel_rfl))) (.rd 2 [(25, qj 0), (24, qj 2)] [] (.thenN (.block (.loop (.succ (.seq (.rg [(1, qp 1 0), (4, qs ((r2 ++ r3) ++ r4)), (23, .one (.csl 300000 1 0 2)), (24, qj 2), (25, qj 0)] [(1, some (.cells (Command.cells a0))), (300000, some (.cells [.ptr 1 2, .ptr 1 3]))] (.rd 1 [(26, qb true)] [] (.thenN (.seq (.condT (by kernel_rfl) (.skip (.thenN (.seq (.block (.sr 3 [(6, qp 1 2), (28, qp 1 2), (27, qp 300000 0)] [] (.region0 (.rn 4 [(32, qj a0.Which), (31, qp 1 2), (30, qp 1 2), (29, qs ((r2 ++ r3) ++ r4))] [] (.cl 33 true [[]] 45 [32] none (fun r10 => qs r10) [qj a0.Which] (F45_ok n a0.Which) (fun r10 => ?_))))))))))))))))))))
                refine SimI.guard (c := ((r2 ++ r3) ++ r4).size + r10.size ≤ 9223372036854775807) ⟨some 34, POp.prim (Prim.bin BinOp.add 9 false false) [29, 33], none, []⟩ [(34, qs (((r2 ++ r3) ++ r4) ++ r10))] [] (by kernel_rfl) (fun hc => pOp_eff (by kernel_rfl) (by kernel_rfl) (eff_prim (by kernel_rfl) (pr_addS _ _ _ ((r2 ++ r3) ++ r4) r10 hc))) (.rd 1 [(4, qs (((r2 ++ r3) ++ r4) ++ r10))] [] (.blockN (.thenN (.region0 (.rd 2 [(25, qj 1), (35, qj 1)] [] (.loopN (.succ (.seq (.rg [(1, qp 1 0), (4, qs (((r2 ++ r3) ++ r4) ++ r10)), (23, .one (.csl 300000 1 0 2)), (24, qj 2), (25, qj 1)] [(1, some (.cells (Command.cells a0))), (300000, some (.cells [.ptr 1 2, .ptr 1 3]))] (.rd 1 [(26, qb true)] [] (.thenN (.seq (.condT (by kernel_rfl) (.skip (.thenN (.seq (.block (.sr 3 [(6, qp 1 3), (28, qp 1 3), (27, qp 300000 1)] [] (.region0 (.rn 4 [(32, qj a0.To), (31, qp 1 3), (30, qp 1 3), (29, qs (((r2 ++ r3) ++ r4) ++ r10))] [] (.cl 33 true [[]] 45 [32] none (fun r11 => qs r11) [qj a0.To] (F45_ok n a0.To) (fun r11 => ?_))))))))))))))))))))))
                refine SimI.guard (c := (((r2 ++ r3) ++ r4) ++ r10).size + r11.size ≤ 9223372036854775807) ⟨some 34, POp.prim (Prim.bin BinOp.add 9 false false) [29, 33], none, []⟩ [(34, qs ((((r2 ++ r3) ++ r4) ++ r10) ++ r11))] [] (by kernel_rfl) (fun hc => pOp_eff (by kernel_rfl) (by kernel_rfl) (eff_prim (by kernel_rfl) (pr_addS _ _ _ (((r2 ++ r3) ++ r4) ++ r10) r11 hc))) (.rd 1 [(4, qs ((((r2 ++ r3) ++ r4) ++ r10) ++ r11))] [] (.blockN (.thenN (.region0 (.rd 2 [(25, qj 2), (35, qj 2)] [] (.loopN (.succ (.seq (.rg [(1, qp 1 0), (4, qs ((((r2 ++ r3) ++ r4) ++ r10) ++ r11)), (23, .one (.csl 300000 1 0 2)), (24, qj 2), (25, qj 2)] [(1, some (.cells (Command.cells a0))), (300000, some (.cells [.ptr 1 2, .ptr 1 3]))] (.rd 1 [(26, qb false)] [] (.thenN (.seq (.condF (by kernel_rfl) (.exit (.thenX (.loopX (.blockX (.thenN (.pr [1, 4] [1, 300000] [] [(1, qp 1 0), (4, qs ((((r2 ++ r3) ++ r4) ++ r10) ++ r11))] [(1, some (.cells (Command.cells a0)))] ?_)))))))))))))))))))
                exact F34_j21_ok n a0 ((((r2 ++ r3) ++ r4) ++ r10) ++ r11)
              · refine SimI.ite (c := r5 = 6) (fun cr5 => ?_) (fun _ => ?_)
                · refine SimI.step ⟨some 23, POp.gcall false false [1, 300000, 300001, 300002, 300003, 300004, 300005, 300006, 300007] [[]] 56 [1], none, []⟩ [(23, .one (.csl 300000 1 0 4))] [(1, some (.cells (Command.cells a0))), (300000, some (.cells [.ptr 1 18, .ptr 1 19, .ptr 1 20, .ptr 1 21]))] (by kernel_rfl) (pOp_eff (by kernel_rfl) (by kernel_rfl) (eff_gcall (ks := [1]) (rks := []) (new := [300000]) (ARGS := [qp 1 0]) (args1 := [qp 1 0]) (args2 := [qp 1000000 0]) (os := [.cells (Command.cells a0)]) (os' := [.cells (Command.cells a0), .cells [.ptr 1000000 18, .ptr 1000000 19, .ptr 1000000 20, .ptr 1000000 21]]) (os1 := [.cells (Command.cells a0), .cells [.ptr 1000000 18, .ptr 1000000 19, .ptr 1000000 20, .ptr 1000000 21]]) (res := .one (.csl 1000001 1 0 4)) (res1 := .one (.csl 1000001 1 0 4)) (r := .one (.csl 300000 1 0 4)) (N := [(1, some (.cells (Command.cells a0))), (300000, some (.cells [.ptr 1 18, .ptr 1 19, .ptr 1 20, .ptr 1 21]))]) (by kernel_rfl) (readA_ow (readA_keep (by kernel_rfl) (readA_nil))) (by kernel_rfl) (by kernel_rfl) (by kernel_rfl) (by kernel_rfl) ((F56s0_ok n a0 r5 hr5).trans (congrArg some (F56s0_e_6 a0 r5 cr5))) (by kernel_rfl) (by kernel_rfl) (by kernel_rfl) rfl (by kernel_rfl) (by kernel_rfl) (by kernel_rfl))) (.rd 2 [(25, qj 0), (24, qj 4)] [] (.thenN (.block (.loop (.succ (.seq (.rg [(1, qp 1 0), (4, qs ((r2 ++ r3) ++ r4)), (23, .one (.csl 300000 1 0 4)), (24, qj 4), (25, qj 0)] [(1, some (.cells (Command.cells a0))), (300000, some (.cells [.ptr 1 18, .ptr 1 19, .ptr 1 20, .ptr 1 21]))] (.rd 1 [(26, qb true)] [] (.thenN (.seq (.condT (by kernel_rfl) (.skip (.thenN (.seq (.block (.sr 3 [(6, qp 1 18), (28, qp 1 18), (27, qp 300000 0)] [] (.region0 (.rn 4 [(32, qj a0.Rect.X0), (31, qp 1 18), (30, qp 1 18), (29, qs ((r2 ++ r3) ++ r4))] [] (.cl 33 true [[]] 45 [32] none (fun r6 => qs r6) [qj a0.Rect.X0] (F45_ok n a0.Rect.X0) (fun r6 => ?_))))))))))))))))))))
                  refine SimI.guard (c := ((r2 ++ r3) ++ r4).size + r6.size ≤ 9223372036854775807) ⟨some 34, POp.prim (Prim.bin BinOp.add 9 false false) [29, 33], none, []⟩ [(34, qs (((r2 ++ r3) ++ r4) ++ r6))] [] (by kernel_rfl) (fun hc => pOp_eff (by kernel_rfl) (by kernel_rfl) (eff_prim (by kernel_rfl) (pr_addS _ _ _ ((r2 ++ r3) ++ r4) r6 hc))) (.rd 1 [(4, qs (((r2 ++ r3) ++ r4) ++ r6))] [] (.blockN (.thenN (.region0 (.rd 2 [(25, qj 1), (35, qj 1)] [] (.loopN (.succ (.seq (.rg [(1, qp 1 0), (4, qs (((r2 ++ r3) ++ r4) ++ r6)), (23, .one (.csl 300000 1 0 4)), (24, qj 4), (25, qj 1)] [(1, some (.cells (Command.cells a0))), (300000, some (.cells [.ptr 1 18, .ptr 1 19, .ptr 1 20, .ptr 1 21]))] (.rd 1 [(26, qb true)] [] (.thenN (.seq (.condT (by kernel_rfl) (.skip (.thenN (.seq (.block (.sr 3 [(6, qp 1 19), (28, qp 1 19), (27, qp 300000 1)] [] (.region0 (.rn 4 [(32, qj a0.Rect.Y0), (31, qp 1 19), (30, qp 1 19), (29, qs (((r2 ++ r3) ++ r4) ++ r6))] [] (.cl 33 true [[]] 45 [32] none (fun r7 => qs r7) [qj a0.Rect.Y0] (F45_ok n a0.Rect.Y0) (fun r7 => ?_))))))))))))))))))))))
                  refine SimI.guard (c := (((r2 ++ r3) ++ r4) ++ r6).size + r7.size ≤ 9223372036854775807) ⟨some 34, POp.prim (Prim.bin BinOp.add 9 false false) [29, 33], none, []⟩ [(34, qs ((((r2 ++ r3) ++ r4) ++ r6) ++ r7))] [] (by kernel_rfl) (fun hc => pOp_eff (by kernel_rfl) (by kernel_rfl) (eff_prim (by kernel_rfl) (pr_addS _ _ _ (((r2 ++ r3) ++ r4) ++ r6) r7 hc))) (.rd 1 [(4, qs ((((r2 ++ r3) ++ r4) ++ r6) ++ r7))] [] (.blockN (.thenN (.region0 (.rd 2 [(25, qj 2), (35, qj 2)] [] (.loopN (.succ (.seq (.rg [(1, qp 1 0), (4, qs ((((r2 ++ r3) ++ r4) ++ r6) ++ r7)), (23, .one (.csl 300000 1 0 4)), (24, qj 4), (25, qj 2)] [(1, some (.cells (Command.cells a0))), (300000, some (.cells [.ptr 1 18, .ptr 1 19, .ptr 1 20, .ptr 1 21]))] (.rd 1 [(26, qb true)] [] (.thenN (.seq (.condT (by kernel_rfl) (.skip (.thenN (.seq (.block (.sr 3 [(6, qp 1 20), (28, qp 1 20), (27, qp 300000 2)] [] (.region0 (.rn 4 [(32, qj a0.Rect.X1), (31, qp 1 20), (30, qp 1 20), (29, qs ((((r2 ++ r3) ++ r4) ++ r6) ++ r7))] [] (.cl 33 true [[]] 45 [32] none (fun r8 => qs r8) [qj a0.Rect.X1] (F45_ok n a0.Rect.X1) (fun r8 => ?_))))))))))))))))))))))
                  refine SimI.guard (c := ((((r2 ++ r3) ++ r4) ++ r6) ++ r7).size + r8.size ≤ 9223372036854775807) ⟨some 34, POp.prim (Prim.bin BinOp.add 9 false false) [29, 33], none, []⟩ [(34, qs (((((r2 ++ r3) ++ r4) ++ r6) ++ r7) ++ r8))] [] (by kernel_rfl) (fun hc => pOp_eff (by kernel_rfl) (by kernel_rfl) (eff_prim (by kernel_rfl) (pr_addS _ _ _ ((((r2 ++ r3) ++ r4) ++ r6) ++ r7) r8 hc))) (.rd 1 [(4, qs (((((r2 ++ r3) ++ r4) ++ r6) ++ r7) ++ r8))] [] (.blockN (.thenN (.region0 (.rd 2 [(25, qj 3), (35, qj 3)] [] (.loopN (.succ (.seq (.rg [(1, qp 1 0), (4, qs (((((r2 ++ r3) ++ r4) ++ r6) ++ r7) ++ r8)), (23, .one (.csl 300000 1 0 4)), (24, qj 4), (25, qj 3)] [(1, some (.cells (Command.cells a0))), (300000, some (.cells [.ptr 1 18, .ptr 1 19, .ptr 1 20, .ptr 1 21]))] (.rd 1 [(26, qb true)] [] (.thenN (.seq (.condT (by kernel_rfl) (.skip (.thenN (.seq (.block (.sr 3 [(6, qp 1 21), (28, qp 1 21), (27, qp 300000 3)] [] (.region0 (.rn 4 [(32, qj a0.Rect.Y1), (31, qp 1 21), (30, qp 1 21), (29, qs (((((r2 ++ r3) ++ r4) ++ r6) ++ r7) ++ r8))] [] (.cl 33 true [[]] 45 [32] none (fun r9 => qs r9) [qj a0.Rect.Y1] (F45_ok n a0.Rect.Y1) (fun r9 => ?_))))))))))))))))))))))
                  refine SimI.guard (c := (((((r2 ++ r3) ++ r4) ++ r6) ++ r7) ++ r8).size + r9.size ≤ 9223372036854775807) ⟨some 34, POp.prim (Prim.bin BinOp.add 9 false false) [29, 33], none, []⟩ [(34, qs ((((((r2 ++ r3) ++ r4) ++ r6) ++ r7) ++ r8) ++ r9))] [] (by kernel_rfl) (fun hc => pOp_eff (by kernel_rfl) (by kernel_rfl) (eff_prim (by kernel_rfl) (pr_addS _ _ _ (((((r2 ++ r3) ++ r4) ++ r6) ++ r7) ++ r8) r9 hc))) (.rd 1 [(4, qs ((((((r2 ++ r3) ++ r4) ++ r6) ++ r7) ++ r8) ++ r9))] [] (.blockN (.thenN (.region0 (.rd 2 [(25, qj 4), (35, qj 4)] [] (.loopN (.succ (.seq (.rg [(1, qp 1 0), (4, qs ((((((r2 ++ r3) ++ r4) ++ r6) ++ r7) ++ r8) ++ r9)), (23, .one (.csl 300000 1 0 4)), (24, qj 4), (25, qj 4)] [(1, some (.cells (Command.cells a0))), (300000, some (.cells [.ptr 1 18, .ptr 1 19, .ptr 1 20, .ptr 1 21]))] (.rd 1 [(26, qb false)] [] (.thenN (.seq (.condF (by kernel_rfl) (.exit (.thenX (.loopX (.blockX (.thenN (.pr [1, 4] [1, 300000] [] [(1, qp 1 0), (4, qs ((((((r2 ++ r3) ++ r4) ++ r6) ++ r7) ++ r8) ++ r9))] [(1, some (.cells (Command.cells a0)))] ?_)))))))))))))))))))
                  exact F34_j21_ok n a0 ((((((r2 ++ r3) ++ r4) ++ r6) ++ r7) ++ r8) ++ r9)
                · exact SimI.vac rfl


-- 70: vedette/num.Get
def F70_e : (Int × Int × Int) → PV × List Ob := fun r => (.tup [.one (li .u64 r.1), .one (li .i64 r.2.1), .one (li .i64 r.2.2)], [])
def F70_j13 (n : Nat) (i11 : Int) (i12 : Int) : Option (Int × Int × Int) :=
    if i12 == 0 then
      some (0, 0, 10)
    else
      some (i11, i12, 0)
theorem F70_j13_ok (n : Nat) (i11 : Int) (i12 : Int) : Sim Try.prog D (n + 8) p70c51 [(5, .one (li .u64 i11)), (6, qj i12)] [] (F70_j13 n i11 i12) (QF false pc70_r 0 F70_e) := by
    unfold F70_j13
    refine Sim.seq (.seq (.rg [(5, .one (li .u64 i11)), (6, qj i12)] [] (.rd 2 [(52, qb (i12 == 0)), (51, qj i12)] [] (.thenN (.cond (i12 == 0) (by kernel_rfl) ?_ ?_)))))
    · exact Sim.sr 3 [(4, qj 10), (3, qj 0), (2, .one (li .u64 0))] [] (.ret (.thenR .fn))
    · exact Sim.skip (.thenN (.sr 5 [(4, qj 0), (3, qj i12), (2, .one (li .u64 i11)), (54, qj i12), (53, .one (li .u64 i11))] [] (.ret .fn)))

def F70_j10 (n : Nat) (i5 : Int) (i6 : Int) (x8 : Int) (rec_l7 : Int → Int → Option (Int × Int × Int)) : Option (Int × Int × Int) :=
    if decide (x8 < 128) then
      if ¬ (IntKind.wrap .i64 (7 * i6) < 0) then
        F70_j13 n (bitsI .or .u64 i5 (shlI .u64 (IntKind.wrap .u64 x8) (IntKind.wrap .i64 (7 * i6)))) (IntKind.wrap .i64 (i6 + 1))
      else none
    else
      if ¬ (IntKind.wrap .i64 (7 * i6) < 0) then
        rec_l7 (bitsI .or .u64 i5 (shlI .u64 (IntKind.wrap .u64 (bitsI .andNot .u8 x8 128)) (IntKind.wrap .i64 (7 * i6)))) (IntKind.wrap .i64 (i6 + 1))
      else none
theorem F70_j10_ok (n : Nat) (a0 : ByteArray) (i5 : Int) (i6 : Int) (x8 : Int) (rec_l7 : Int → Int → Option (Int × Int × Int)) (m_l7 : Nat) (ih_l7 : ∀ (i5 : Int) (i6 : Int), SimL Try.prog D (n + 8) m_l7 p70c37 [(5, .one (li .u64 i5)), (6, qj 0), (10, .one (vw (codI .u8) (bytesL a0))), (11, qj ((bytesL a0).length : Int)), (12, qj i6)] [] (rec_l7 i5 i6) (QB 0 (QT Try.prog D (n + 8) p70c51 (QF false pc70_r 0 F70_e)))) : Sim Try.prog D (n + 8) p70c26 [(5, .one (li .u64 i5)), (6, qj 0), (7, qj i6), (8, .one (li .u8 x8)), (10, .one (vw (codI .u8) (bytesL a0))), (11, qj ((bytesL a0).length : Int)), (12, qj i6)] [] (F70_j10 n i5 i6 x8 rec_l7) (QB 2 (QT Try.prog D (n + 8) p70c30 (QB 1 (QT Try.prog D (n + 8) p70c34 (QL Try.prog D (n + 8) m_l7 p70c37 (QB 0 (QT Try.prog D (n + 8) p70c51 (QF false pc70_r 0 F70_e)))))))) := by
    unfold F70_j10
    refine Sim.seq (.rg [(5, .one (li .u64 i5)), (6, qj 0), (7, qj i6), (8, .one (li .u8 x8)), (10, .one (vw (codI .u8) (bytesL a0))), (11, qj ((bytesL a0).length : Int)), (12, qj i6)] [] (.rd 3 [(30, qb (decide (x8 < 128))), (32, qb (decide (x8 < 128))), (31, .one (li .u8 x8))] [] (.thenN (.cond (decide (x8 < 128)) (by kernel_rfl) ?_ ?_))))
    · refine Sim.st 5 [(37, qj (iw .i64 (7 * i6))), (36, qj i6), (35, .one (li .u64 (iw .u64 x8))), (34, .one (li .u8 x8)), (33, .one (li .u64 i5))] [] (.guard (c := ¬ (iw .i64 (7 * i6) < 0)) ⟨some 38, POp.prim (Prim.bin BinOp.shl 70 false false) [35, 37], none, []⟩ [(38, .one (li .u64 (shlI .u64 (iw .u64 x8) (iw .i64 (7 * i6)))))] [] (by kernel_rfl) (fun hc => pOp_eff (by kernel_rfl) (by kernel_rfl) (eff_prim (by kernel_rfl) (pr_shl _ _ _ .u64 .i64 (iw .u64 x8) (iw .i64 (7 * i6)) hc))) (.rd 2 [(5, .one (li .u64 (bitsI .or .u64 i5 (shlI .u64 (iw .u64 x8) (iw .i64 (7 * i6)))))), (39, .one (li .u64 (bitsI .or .u64 i5 (shlI .u64 (iw .u64 x8) (iw .i64 (7 * i6))))))] [] (.thenN (.sr 3 [(6, qj (iw .i64 (i6 + 1))), (41, qj (iw .i64 (i6 + 1))), (40, qj i6)] [] (.exit (.blockY rfl (.thenX (.blockY rfl (.thenX (.loopX (.blockX (.thenN (.pr [5, 6] [] [] [(5, .one (li .u64 (bitsI .or .u64 i5 (shlI .u64 (iw .u64 x8) (iw .i64 (7 * i6)))))), (6, qj (iw .i64 (i6 + 1)))] [] ?_)))))))))))))
      exact F70_j13_ok n (bitsI .or .u64 i5 (shlI .u64 (iw .u64 x8) (iw .i64 (7 * i6)))) (iw .i64 (i6 + 1))
    · refine Sim.skip (.blockN (.thenN (.region0 (.rn 6 [(47, qj (iw .i64 (7 * i6))), (46, qj i6), (45, .one (li .u64 (iw .u64 (bitsI .andNot .u8 x8 128)))), (44, .one (li .u8 (bitsI .andNot .u8 x8 128))), (43, .one (li .u8 x8)), (42, .one (li .u64 i5))] [] (.guard (c := ¬ (iw .i64 (7 * i6) < 0)) ⟨some 48, POp.prim (Prim.bin BinOp.shl 70 false false) [45, 47], none, []⟩ [(48, .one (li .u64 (shlI .u64 (iw .u64 (bitsI .andNot .u8 x8 128)) (iw .i64 (7 * i6)))))] [] (by kernel_rfl) (fun hc => pOp_eff (by kernel_rfl) (by kernel_rfl) (eff_prim (by kernel_rfl) (pr_shl _ _ _ .u64 .i64 (iw .u64 (bitsI .andNot .u8 x8 128)) (iw .i64 (7 * i6)) hc))) (.rd 2 [(5, .one (li .u64 (bitsI .or .u64 i5 (shlI .u64 (iw .u64 (bitsI .andNot .u8 x8 128)) (iw .i64 (7 * i6)))))), (49, .one (li .u64 (bitsI .or .u64 i5 (shlI .u64 (iw .u64 (bitsI .andNot .u8 x8 128)) (iw .i64 (7 * i6))))))] [] (.blockN (.thenN (.region0 (.rd 2 [(12, qj (iw .i64 (i6 + 1))), (50, qj (iw .i64 (i6 + 1)))] [] (.loopN (.pr [5, 6, 10, 11, 12] [] [] [(5, .one (li .u64 (bitsI .or .u64 i5 (shlI .u64 (iw .u64 (bitsI .andNot .u8 x8 128)) (iw .i64 (7 * i6)))))), (6, qj 0), (10, .one (vw (codI .u8) (bytesL a0))), (11, qj ((bytesL a0).length : Int)), (12, qj (iw .i64 (i6 + 1)))] [] ?_))))))))))))
      exact ih_l7 (bitsI .or .u64 i5 (shlI .u64 (iw .u64 (bitsI .andNot .u8 x8 128)) (iw .i64 (7 * i6)))) (iw .i64 (i6 + 1))

def F70_j9 (n : Nat) (i5 : Int) (i6 : Int) (x8 : Int) (rec_l7 : Int → Int → Option (Int × Int × Int)) : Option (Int × Int × Int) :=
    if decide ((0 : Int) < i6) then
      if x8 == 0 then
        some (0, 0, 11)
      else
        F70_j10 n i5 i6 x8 rec_l7
    else
      F70_j10 n i5 i6 x8 rec_l7
theorem F70_j9_ok (n : Nat) (a0 : ByteArray) (i5 : Int) (i6 : Int) (x8 : Int) (rec_l7 : Int → Int → Option (Int × Int × Int)) (m_l7 : Nat) (ih_l7 : ∀ (i5 : Int) (i6 : Int), SimL Try.prog D (n + 8) m_l7 p70c37 [(5, .one (li .u64 i5)), (6, qj 0), (10, .one (vw (codI .u8) (bytesL a0))), (11, qj ((bytesL a0).length : Int)), (12, qj i6)] [] (rec_l7 i5 i6) (QB 0 (QT Try.prog D (n + 8) p70c51 (QF false pc70_r 0 F70_e)))) : Sim Try.prog D (n + 8) p70c12 [(5, .one (li .u64 i5)), (6, qj 0), (7, qj i6), (8, .one (li .u8 x8)), (10, .one (vw (codI .u8) (bytesL a0))), (11, qj ((bytesL a0).length : Int)), (12, qj i6)] [] (F70_j9 n i5 i6 x8 rec_l7) (QT Try.prog D (n + 8) p70c27 (QB 2 (QT Try.prog D (n + 8) p70c30 (QB 1 (QT Try.prog D (n + 8) p70c34 (QL Try.prog D (n + 8) m_l7 p70c37 (QB 0 (QT Try.prog D (n + 8) p70c51 (QF false pc70_r 0 F70_e))))))))) := by
    unfold F70_j9
    refine Sim.rg [(5, .one (li .u64 i5)), (6, qj 0), (7, qj i6), (8, .one (li .u8 x8)), (10, .one (vw (codI .u8) (bytesL a0))), (11, qj ((bytesL a0).length : Int)), (12, qj i6)] [] (.rn 3 [(26, qb (decide ((0 : Int) < i6))), (25, qb (decide ((0 : Int) < i6))), (24, qj i6)] [] (.split 26 (decide ((0 : Int) < i6)) (by kernel_rfl) ?_ ?_))
    · refine SimI.rd 4 [(17, qb (x8 == 0)), (29, qb (x8 == 0)), (28, qb (x8 == 0)), (27, .one (li .u8 x8))] [] (.thenN (.cond (x8 == 0) (by kernel_rfl) ?_ ?_))
      · exact Sim.sr 3 [(4, qj 11), (3, qj 0), (2, .one (li .u64 0))] [] (.ret (.blockR (.thenR (.blockR (.thenR (.loopR (.blockR (.thenR .fn))))))))
      · refine Sim.pr [5, 6, 7, 8, 10, 11, 12] [] [] [(5, .one (li .u64 i5)), (6, qj 0), (7, qj i6), (8, .one (li .u8 x8)), (10, .one (vw (codI .u8) (bytesL a0))), (11, qj ((bytesL a0).length : Int)), (12, qj i6)] [] ?_
        exact F70_j10_ok n a0 i5 i6 x8 rec_l7 m_l7 ih_l7
    · refine SimI.rd 4 [(17, qb false), (29, qb false), (28, tz), (27, tz)] [] (.thenN (.condF (by kernel_rfl) (.pr [5, 6, 7, 8, 10, 11, 12] [] [] [(5, .one (li .u64 i5)), (6, qj 0), (7, qj i6), (8, .one (li .u8 x8)), (10, .one (vw (codI .u8) (bytesL a0))), (11, qj ((bytesL a0).length : Int)), (12, qj i6)] [] ?_)))
      exact F70_j10_ok n a0 i5 i6 x8 rec_l7 m_l7 ih_l7

def F70_l7 (n : Nat) (a0 : ByteArray) : Nat → Int → Int → Option (Int × Int × Int)
  | 0, _, _ => none
  | m + 1, i5, i6 =>
    if decide (i6 < ((bytesL a0).length : Int)) then
      (ix (bytesL a0) i6).bind fun (x8 : Int) =>
      if i6 == 9 then
        if decide ((1 : Int) < x8) then
          if decide ((1 : Int) < x8) then
            some (0, 0, 11)
          else
            F70_j10 n i5 i6 x8 (F70_l7 n a0 m)
        else
          F70_j9 n i5 i6 x8 (F70_l7 n a0 m)
      else
        F70_j9 n i5 i6 x8 (F70_l7 n a0 m)
    else
      F70_j13 n i5 0
theorem F70_l7_ok (n : Nat) (a0 : ByteArray) : ∀ (m : Nat) (i5 : Int) (i6 : Int), SimL Try.prog D (n + 8) m p70c37 [(5, .one (li .u64 i5)), (6, qj 0), (10, .one (vw (codI .u8) (bytesL a0))), (11, qj ((bytesL a0).length : Int)), (12, qj i6)] [] (F70_l7 n a0 m i5 i6) (QB 0 (QT Try.prog D (n + 8) p70c51 (QF false pc70_r 0 F70_e))) := by
  intro m_l7
  induction m_l7 with
  | zero => intro i5 i6; exact SimL.zero'  rfl
  | succ m_l7 ih_l7 =>
    intro i5 i6
    refine SimL.succ ?_
    unfold F70_l7
    refine Sim.seq (.rg [(5, .one (li .u64 i5)), (6, qj 0), (10, .one (vw (codI .u8) (bytesL a0))), (11, qj ((bytesL a0).length : Int)), (12, qj i6)] [] (.rd 1 [(13, qb (decide (i6 < ((bytesL a0).length : Int))))] [] (.thenN (.seq (.cond (decide (i6 < ((bytesL a0).length : Int))) (by kernel_rfl) ?_ ?_)))))
    · refine Sim.skip (.thenN (.seq (.block (.st 1 [(14, qj i6)] [] (.bind (og := ix (bytesL a0) i6) ⟨some 15, POp.iaddrS 1 (Operand.tmp 10) (Operand.tmp 12), none, []⟩ (fun x8 => [(15, .one (.eptr ((codI .u8).enc x8) 0))]) (fun x8 => []) (by kernel_rfl) (fun x8 hr => pOp_eff (by kernel_rfl) (by kernel_rfl) (eff_idx (c := (codI .u8)) (l := bytesL a0) (k := .i64) (n := i6) (by kernel_rfl) (by kernel_rfl) (by kernel_rfl) hr)) (fun x8 => ?_))))))
      refine SimI.rd 3 [(8, .one (li .u8 x8)), (7, qj i6), (16, .one (li .u8 x8))] [] (.thenN (.seq (.block (.seq (.st 3 [(20, qb (i6 == 9)), (19, qb (i6 == 9)), (18, qj i6)] [] (.split 20 (i6 == 9) (by kernel_rfl) ?_ ?_))))))
      · refine SimI.rd 4 [(17, qb (decide ((1 : Int) < x8))), (23, qb (decide ((1 : Int) < x8))), (22, qb (decide ((1 : Int) < x8))), (21, .one (li .u8 x8))] [] (.thenN (.cond (decide ((1 : Int) < x8)) (by kernel_rfl) ?_ ?_))
        · refine Sim.skip (.thenN (.cond (decide ((1 : Int) < x8)) (by kernel_rfl) ?_ ?_))
          · exact Sim.sr 3 [(4, qj 11), (3, qj 0), (2, .one (li .u64 0))] [] (.ret (.blockR (.thenR (.blockR (.thenR (.loopR (.blockR (.thenR .fn))))))))
          · refine Sim.pr [5, 6, 7, 8, 10, 11, 12] [] [] [(5, .one (li .u64 i5)), (6, qj 0), (7, qj i6), (8, .one (li .u8 x8)), (10, .one (vw (codI .u8) (bytesL a0))), (11, qj ((bytesL a0).length : Int)), (12, qj i6)] [] ?_
            exact F70_j10_ok n a0 i5 i6 x8 (F70_l7 n a0 m_l7) m_l7 ih_l7
        · refine Sim.pr [5, 6, 7, 8, 10, 11, 12] [] [] [(5, .one (li .u64 i5)), (6, qj 0), (7, qj i6), (8, .one (li .u8 x8)), (10, .one (vw (codI .u8) (bytesL a0))), (11, qj ((bytesL a0).length : Int)), (12, qj i6)] [] ?_
          exact F70_j9_ok n a0 i5 i6 x8 (F70_l7 n a0 m_l7) m_l7 ih_l7
      · refine SimI.rd 4 [(17, qb false), (23, qb false), (22, tz), (21, tz)] [] (.thenN (.condF (by kernel_rfl) (.pr [5, 6, 7, 8, 10, 11, 12] [] [] [(5, .one (li .u64 i5)), (6, qj 0), (7, qj i6), (8, .one (li .u8 x8)), (10, .one (vw (codI .u8) (bytesL a0))), (11, qj ((bytesL a0).length : Int)), (12, qj i6)] [] ?_)))
        exact F70_j9_ok n a0 i5 i6 x8 (F70_l7 n a0 m_l7) m_l7 ih_l7
    · refine Sim.exit (.thenX (.loopX (.blockX (.thenN (.pr [5, 6] [] [] [(5, .one (li .u64 i5)), (6, qj 0)] [] ?_)))))
      exact F70_j13_ok n i5 0

def F70 (n : Nat) (a0 : ByteArray) : Option (Int × Int × Int) :=
  F70_l7 n a0 (n + 8) 0 0
theorem F70_ok (n : Nat) (a0 : ByteArray) : ∀ r, F70 n a0 = some r → D 70 [.one (ls a0)] [] = some (F70_e r) := by
  refine fn_to (D := D) (n := n + 8) (nt := 55) (rs := pc70_r) (c := p70c56) (L := [(0, qs a0)]) (M := []) (k := 0) rfl rfl rfl rfl rfl rfl rfl ?_
  unfold F70
  refine Sim.sr 3 [(4, qj 0), (3, qj 0), (2, .one (li .u64 0))] [] (.scope (.sr 2 [(6, qj 0), (5, .one (li .u64 0))] [] (.seq (.label (.thenN (.seq (.st 1 [(9, qs a0)] [] (.step ⟨some 10, POp.s2b 5 (Operand.tmp 9), none, []⟩ [(10, .one (vw (codI .u8) (bytesL a0)))] [] (by kernel_rfl) (pOp_eff (by kernel_rfl) (by kernel_rfl) (eff_s2b (s := a0) (by kernel_rfl))) (.rd 2 [(12, qj 0), (11, qj ((bytesL a0).length : Int))] [] (.thenN (.block (.loop (.pr [5, 6, 10, 11, 12] [] [] [(5, .one (li .u64 0)), (6, qj 0), (10, .one (vw (codI .u8) (bytesL a0))), (11, qj ((bytesL a0).length : Int)), (12, qj 0)] [] ?_)))))))))))))
  exact F70_l7_ok n a0 (n + 8) 0 0


-- 74: vedette/num.Zag
def F74_e : Int → PV × List Ob := fun r => (.one (li .i64 r), [])
def F74 (n : Nat) (a0 : Int) : Option Int :=
  some (bitsI .xor .i64 (IntKind.wrap .i64 (shrI .u64 a0 1)) (IntKind.wrap .i64 (0 - (IntKind.wrap .i64 (bitsI .and .u64 a0 1)))))
theorem F74_ok (n : Nat) (a0 : Int) : ∀ r, F74 n a0 = some r → D 74 [.one (li .u64 a0)] [] = some (F74_e r) := by
  refine fn_to (D := D) (n := n + 8) (nt := 11) (rs := pc74_r) (c := p74c5) (L := [(0, .one (li .u64 a0))]) (M := []) (k := 0) rfl rfl rfl rfl rfl rfl rfl ?_
  unfold F74
  exact Sim.sr 1 [(2, qj 0)] [] (.sr 9 [(2, qj (bitsI .xor .i64 (iw .i64 (shrI .u64 a0 1)) (iw .i64 (0 - (iw .i64 (bitsI .and .u64 a0 1)))))), (10, qj (bitsI .xor .i64 (iw .i64 (shrI .u64 a0 1)) (iw .i64 (0 - (iw .i64 (bitsI .and .u64 a0 1)))))), (9, qj (iw .i64 (0 - (iw .i64 (bitsI .and .u64 a0 1))))), (8, qj (iw .i64 (bitsI .and .u64 a0 1))), (7, .one (li .u64 (bitsI .and .u64 a0 1))), (6, .one (li .u64 a0)), (5, qj (iw .i64 (shrI .u64 a0 1))), (4, .one (li .u64 (shrI .u64 a0 1))), (3, .one (li .u64 a0))] [] (.ret .fn))


-- 65: vedette/num.Ints
def F65_e : (Int × Int × Int) → PV × List Ob := fun r => (.tup [.one (li .i64 r.1), .one (li .i64 r.2.1), .one (li .i64 r.2.2)], [])
def F65 (n : Nat) (a0 : ByteArray) : Option (Int × Int × Int) :=
  (F70 n a0).bind fun (r1 : (Int × Int × Int)) =>
  (F74 n r1.1).bind fun (r2 : Int) =>
  some (r2, r1.2.1, r1.2.2)
theorem F65_ok (n : Nat) (a0 : ByteArray) : ∀ r, F65 n a0 = some r → D 65 [.one (ls a0)] [] = some (F65_e r) := by
  refine fn_to (D := D) (n := n + 8) (nt := 18) (rs := pc65_r) (c := p65c7) (L := [(0, qs a0)]) (M := []) (k := 0) rfl rfl rfl rfl rfl rfl rfl ?_
  unfold F65
  refine Sim.sr 3 [(4, qj 0), (3, qj 0), (2, qj 0)] [] (.st 1 [(9, qs a0)] [] (.cl 10 true [[]] 70 [9] none (fun r1 => .tup [.one (li .u64 r1.1), qj r1.2.1, qj r1.2.2]) [qs a0] (F70_ok n a0) (fun r1 => ?_)))
  refine SimI.rd 7 [(7, qj r1.2.2), (6, qj r1.2.1), (5, .one (li .u64 r1.1)), (13, qj r1.2.2), (12, qj r1.2.1), (11, .one (li .u64 r1.1)), (8, .tup [.one (li .u64 r1.1), qj r1.2.1, qj r1.2.2])] [] (.thenN (.st 1 [(14, .one (li .u64 r1.1))] [] (.cl 15 true [[]] 74 [14] none (fun r2 => qj r2) [.one (li .u64 r1.1)] (F74_ok n r1.1) (fun r2 => ?_))))
  exact SimI.rd 5 [(4, qj r1.2.2), (3, qj r1.2.1), (2, qj r2), (17, qj r1.2.2), (16, qj r1.2.1)] [] (.thenN (.ret .fn))


-- 64: vedette/cmd.Read$1
def F64s0_e (a0 : ByteArray) (a1 : Int) : (Int × Int × Int) → PV × List Ob := fun r => (.tup [.one (li .i64 r.1), .one (li .i64 r.2.1)], [.cells [ls a0], .cells [li .i64 r.2.2]])
def F64s0 (n : Nat) (a0 : ByteArray) (a1 : Int) : Option (Int × Int × Int) :=
  if 0 ≤ (a1 : Int) ∧ (a1 : Int) ≤ (a0.size : Int) then
    (F65 n (a0.extract a1.toNat a0.size)).bind fun (r1 : (Int × Int × Int)) =>
    some (r1.1, r1.2.2, (IntKind.wrap .i64 (a1 + r1.2.1)))
  else none
theorem F64s0_ok (n : Nat) (a0 : ByteArray) (a1 : Int) : ∀ r, F64s0 n a0 a1 = some r → D 64 [.one (.ptr 1000000 0), .one (.ptr 1000001 0)] [.cells [ls a0], .cells [li .i64 a1]] = some ((F64s0_e a0 a1) r) := by
  refine fn_to (D := D) (n := n + 8) (nt := 20) (rs := pc64_r) (c := p64c9) (L := [(0, qp 1000000 0), (1, qp 1000001 0)]) (M := [(1000000, some (.cells [ls a0])), (1000001, some (.cells [lj a1]))]) (k := 2) rfl rfl rfl rfl rfl rfl rfl ?_
  unfold F64s0
  refine Sim.sr 2 [(3, qj 0), (2, qj 0)] [] (.st 2 [(9, qj a1), (8, qs a0)] [] (.guard (c := 0 ≤ (a1 : Int) ∧ (a1 : Int) ≤ (a0.size : Int)) ⟨some 10, POp.prim (Prim.slice 9 true false) [8, 9], none, []⟩ [(10, qs (a0.extract a1.toNat a0.size))] [] (by kernel_rfl) (fun hc => pOp_eff (by kernel_rfl) (by kernel_rfl) (eff_prim (by kernel_rfl) (pr_cutL (s := a0) (k := .i64) (a := a1) Try.underlying9 hc))) (.cl 11 true [[]] 65 [10] none (fun r1 => .tup [qj r1.1, qj r1.2.1, qj r1.2.2]) [qs (a0.extract a1.toNat a0.size)] (F65_ok n (a0.extract a1.toNat a0.size)) (fun r1 => ?_))))
  exact SimI.rd 7 [(6, qj r1.2.2), (5, qj r1.2.1), (4, qj r1.1), (14, qj r1.2.2), (13, qj r1.2.1), (12, qj r1.1), (7, .tup [qj r1.1, qj r1.2.1, qj r1.2.2])] [] (.thenN (.sr 4 [(17, qj (iw .i64 (a1 + r1.2.1))), (16, qj r1.2.1), (15, qj a1)] [(1000001, some (.cells [lj (iw .i64 (a1 + r1.2.1))]))] (.sr 4 [(3, qj r1.2.2), (2, qj r1.1), (19, qj r1.2.2), (18, qj r1.1)] [] (.ret .fn))))


-- 66: vedette/cmd.Read$2
def F66s0_e (a0 : Command) (a1 : ByteArray) (a2 : Int) : (Int × Command × Int) → PV × List Ob := fun r => (.one (li .i64 r.1), [.cells [.ptr 1000001 0, .ptr 1000001 16, .ptr 1000001 17], .cells (Command.cells r.2.1), .cells [.fn 64 [.ptr 1000003 0, .ptr 1000004 0]], .cells [ls a1], .cells [li .i64 r.2.2]])
def F66s0 (n : Nat) (a0 : Command) (a1 : ByteArray) (a2 : Int) : Option (Int × Command × Int) :=
  (F64s0 n a1 a2).bind fun (r1 : (Int × Int × Int)) =>
  if r1.2.1 != 0 then
    some (r1.2.1, a0, r1.2.2)
  else
    (F64s0 n a1 r1.2.2).bind fun (r2 : (Int × Int × Int)) =>
    if r2.2.1 != 0 then
      some (r2.2.1, (Command.mk (imin (imax r1.1 (-1000001)) 1000001) a0.ID a0.Which a0.To a0.At a0.F a0.Value a0.Client a0.Session a0.Rect), r2.2.2)
    else
      (F64s0 n a1 r2.2.2).bind fun (r3 : (Int × Int × Int)) =>
      if r3.2.1 != 0 then
        some (r3.2.1, (Command.mk (imin (imax r1.1 (-1000001)) 1000001) a0.ID a0.Which a0.To a0.At a0.F a0.Value (imin (imax r2.1 (-1000001)) 1000001) a0.Session a0.Rect), r3.2.2)
      else
        some (0, (Command.mk (imin (imax r1.1 (-1000001)) 1000001) a0.ID a0.Which a0.To a0.At a0.F a0.Value (imin (imax r2.1 (-1000001)) 1000001) (imin (imax r3.1 (-1000001)) 1000001) a0.Rect), r3.2.2)
theorem F66s0_ok (n : Nat) (a0 : Command) (a1 : ByteArray) (a2 : Int) : ∀ r, F66s0 n a0 a1 a2 = some r → D 66 [.one (.csl 1000000 1 0 3), .one (.ptr 1000002 0)] [.cells [.ptr 1000001 0, .ptr 1000001 16, .ptr 1000001 17], .cells (Command.cells a0), .cells [.fn 64 [.ptr 1000003 0, .ptr 1000004 0]], .cells [ls a1], .cells [li .i64 a2]] = some ((F66s0_e a0 a1 a2) r) := by
  refine fn_to (D := D) (n := n + 8) (nt := 28) (rs := pc66_r) (c := p66c32) (L := [(0, .one (.csl 1000000 1 0 3)), (1, qp 1000002 0)]) (M := [(1000000, some (.cells [.ptr 1000001 0, .ptr 1000001 16, .ptr 1000001 17])), (1000001, some (.cells (Command.cells a0))), (1000002, some (.cells [.fn 64 [.ptr 1000003 0, .ptr 1000004 0]])), (1000003, some (.cells [ls a1])), (1000004, some (.cells [lj a2]))]) (k := 5) rfl rfl rfl rfl rfl rfl rfl ?_
  unfold F66s0
  refine Sim.sr 1 [(3, qj 0)] [] (.seq (.sr 3 [(10, qj 0), (9, qj 3), (8, .one (.csl 1000000 1 0 3))] [] (.block (.loop (.succ (.seq (.rg [(1, qp 1000002 0), (8, .one (.csl 1000000 1 0 3)), (9, qj 3), (10, qj 0)] [(1000000, some (.cells [.ptr 1000001 0, .ptr 1000001 16, .ptr 1000001 17])), (1000001, some (.cells (Command.cells a0))), (1000002, some (.cells [.fn 64 [.ptr 1000003 0, .ptr 1000004 0]])), (1000003, some (.cells [ls a1])), (1000004, some (.cells [lj a2]))] (.rd 1 [(11, qb true)] [] (.thenN (.seq (.condT (by kernel_rfl) (.skip (.thenN (.seq (.block (.sr 3 [(5, qp 1000001 0), (13, qp 1000001 0), (12, qp 1000000 0)] [] (.st 1 [(15, .one (.fn 64 [.ptr 1000003 0, .ptr 1000004 0]))] [] (.bind (og := F64s0 n a1 a2) ⟨some 16, POp.gcallv false false [300000, 300001, 300002, 300003, 300004, 300005, 300006, 300007, 1000003, 1000004] [] (Operand.tmp 15) [], none, []⟩ (fun r1 => [(16, .tup [qj r1.1, qj r1.2.1])]) (fun r1 => [(1000003, some (.cells [ls a1])), (1000004, some (.cells [lj r1.2.2]))]) (by kernel_rfl) (fun r1 hr => pOp_eff (by kernel_rfl) (by kernel_rfl) (eff_gcallv (ks := [1000003, 1000004]) (rks := []) (new := []) (ARGS := [qp 1000003 0, qp 1000004 0]) (args1 := [qp 1000003 0, qp 1000004 0]) (args2 := [qp 1000000 0, qp 1000001 0]) (os := [.cells [ls a1], .cells [lj a2]]) (os' := [.cells [ls a1], .cells [lj r1.2.2]]) (os1 := [.cells [ls a1], .cells [lj r1.2.2]]) (res := .tup [qj r1.1, qj r1.2.1]) (res1 := .tup [qj r1.1, qj r1.2.1]) (r := .tup [qj r1.1, qj r1.2.1]) (N := [(1000003, some (.cells [ls a1])), (1000004, some (.cells [lj r1.2.2]))]) (caps := [.ptr 1000003 0, .ptr 1000004 0]) (by kernel_rfl) (by kernel_rfl) (readA_ow (readA_keep (by kernel_rfl) (readA_keep (by kernel_rfl) (readA_nil)))) (by kernel_rfl) (by kernel_rfl) (by kernel_rfl) (by kernel_rfl) (F64s0_ok n a1 a2 r1 hr) (by kernel_rfl) (by kernel_rfl) (by kernel_rfl) rfl (by kernel_rfl) (by kernel_rfl) (by kernel_rfl))) (fun r1 => ?_)))))))))))))))))))
  refine SimI.rd 5 [(7, qj r1.2.1), (6, qj r1.1), (18, qj r1.2.1), (17, qj r1.1), (14, .tup [qj r1.1, qj r1.2.1])] [] (.thenN (.seq (.sr 2 [(20, qb (r1.2.1 != 0)), (19, qj r1.2.1)] [] (.cond (r1.2.1 != 0) (by kernel_rfl) ?_ ?_))))
  · exact Sim.sr 2 [(3, qj r1.2.1), (21, qj r1.2.1)] [] (.ret (.thenR (.blockR (.thenR (.loopR (.blockR (.thenR .fn)))))))
  · refine Sim.skip (.thenN (.region0 (.rd 6 [(26, qp 1000001 0), (25, qj (imin (imax r1.1 (-1000001)) 1000001)), (24, qj (imax r1.1 (-1000001))), (23, qj r1.1), (22, qp 1000001 0)] [(1000001, some (.cells [lj (imin (imax r1.1 (-1000001)) 1000001), lj a0.ID, lj a0.Which, lj a0.To, lj a0.At.X, lj a0.At.Y, lj a0.F.a0.N, ls a0.F.a0.Text, lj a0.F.a1.N, ls a0.F.a1.Text, lj a0.F.a2.N, ls a0.F.a2.Text, lj a0.F.a3.N, ls a0.F.a3.Text, lj a0.Value.N, ls a0.Value.Text, lj a0.Client, lj a0.Session, lj a0.Rect.X0, lj a0.Rect.Y0, lj a0.Rect.X1, lj a0.Rect.Y1]))] (.blockN (.thenN (.region0 (.rd 2 [(10, qj 1), (27, qj 1)] [] (.loopN (.succ (.seq (.rg [(1, qp 1000002 0), (8, .one (.csl 1000000 1 0 3)), (9, qj 3), (10, qj 1)] [(1000000, some (.cells [.ptr 1000001 0, .ptr 1000001 16, .ptr 1000001 17])), (1000001, some (.cells [lj (imin (imax r1.1 (-1000001)) 1000001), lj a0.ID, lj a0.Which, lj a0.To, lj a0.At.X, lj a0.At.Y, lj a0.F.a0.N, ls a0.F.a0.Text, lj a0.F.a1.N, ls a0.F.a1.Text, lj a0.F.a2.N, ls a0.F.a2.Text, lj a0.F.a3.N, ls a0.F.a3.Text, lj a0.Value.N, ls a0.Value.Text, lj a0.Client, lj a0.Session, lj a0.Rect.X0, lj a0.Rect.Y0, lj a0.Rect.X1, lj a0.Rect.Y1])), (1000002, some (.cells [.fn 64 [.ptr 1000003 0, .ptr 1000004 0]])), (1000003, some (.cells [ls a1])), (1000004, some (.cells [lj r1.2.2]))] (.rd 1 [(11, qb true)] [] (.thenN (.seq (.condT (by kernel_rfl) (.skip (.thenN (.seq (.block (.sr 3 [(5, qp 1000001 16), (13, qp 1000001 16), (12, qp 1000000 1)] [] (.st 1 [(15, .one (.fn 64 [.ptr 1000003 0, .ptr 1000004 0]))] [] (.bind (og := F64s0 n a1 r1.2.2) ⟨some 16, POp.gcallv false false [300000, 300001, 300002, 300003, 300004, 300005, 300006, 300007, 1000003, 1000004] [] (Operand.tmp 15) [], none, []⟩ (fun r2 => [(16, .tup [qj r2.1, qj r2.2.1])]) (fun r2 => [(1000003, some (.cells [ls a1])), (1000004, some (.cells [lj r2.2.2]))]) (by kernel_rfl) (fun r2 hr => pOp_eff (by kernel_rfl) (by kernel_rfl) (eff_gcallv (ks := [1000003, 1000004]) (rks := []) (new := []) (ARGS := [qp 1000003 0, qp 1000004 0]) (args1 := [qp 1000003 0, qp 1000004 0]) (args2 := [qp 1000000 0, qp 1000001 0]) (os := [.cells [ls a1], .cells [lj r1.2.2]]) (os' := [.cells [ls a1], .cells [lj r2.2.2]]) (os1 := [.cells [ls a1], .cells [lj r2.2.2]]) (res := .tup [qj r2.1, qj r2.2.1]) (res1 := .tup [qj r2.1, qj r2.2.1]) (r := .tup [qj r2.1, qj r2.2.1]) (N := [(1000003, some (.cells [ls a1])), (1000004, some (.cells [lj r2.2.2]))]) (caps := [.ptr 1000003 0, .ptr 1000004 0]) (by kernel_rfl) (by kernel_rfl) (readA_ow (readA_keep (by kernel_rfl) (readA_keep (by kernel_rfl) (readA_nil)))) (by kernel_rfl) (by kernel_rfl) (by kernel_rfl) (by kernel_rfl) (F64s0_ok n a1 r1.2.2 r2 hr) (by kernel_rfl) (by kernel_rfl) (by kernel_rfl) rfl (by kernel_rfl) (by kernel_rfl) (by kernel_rfl))) (fun r2 => ?_)))))))))))))))))))))))
    refine SimI.rd 5 [(7, qj r2.2.1), (6, qj r2.1), (18, qj r2.2.1), (17, qj r2.1), (14, .tup [qj r2.1, qj r2.2.1])] [] (.thenN (.seq (.sr 2 [(20, qb (r2.2.1 != 0)), (19, qj r2.2.1)] [] (.cond (r2.2.1 != 0) (by kernel_rfl) ?_ ?_))))
    · exact Sim.sr 2 [(3, qj r2.2.1), (21, qj r2.2.1)] [] (.ret (.thenR (.blockR (.thenR (.loopR (.blockR (.thenR .fn)))))))
    · refine Sim.skip (.thenN (.region0 (.rd 6 [(26, qp 1000001 16), (25, qj (imin (imax r2.1 (-1000001)) 1000001)), (24, qj (imax r2.1 (-1000001))), (23, qj r2.1), (22, qp 1000001 16)] [(1000001, some (.cells [lj (imin (imax r1.1 (-1000001)) 1000001), lj a0.ID, lj a0.Which, lj a0.To, lj a0.At.X, lj a0.At.Y, lj a0.F.a0.N, ls a0.F.a0.Text, lj a0.F.a1.N, ls a0.F.a1.Text, lj a0.F.a2.N, ls a0.F.a2.Text, lj a0.F.a3.N, ls a0.F.a3.Text, lj a0.Value.N, ls a0.Value.Text, lj (imin (imax r2.1 (-1000001)) 1000001), lj a0.Session, lj a0.Rect.X0, lj a0.Rect.Y0, lj a0.Rect.X1, lj a0.Rect.Y1]))] (.blockN (.thenN (.region0 (.rd 2 [(10, qj 2), (27, qj 2)] [] (.loopN (.succ (.seq (.rg [(1, qp 1000002 0), (8, .one (.csl 1000000 1 0 3)), (9, qj 3), (10, qj 2)] [(1000000, some (.cells [.ptr 1000001 0, .ptr 1000001 16, .ptr 1000001 17])), (1000001, some (.cells [lj (imin (imax r1.1 (-1000001)) 1000001), lj a0.ID, lj a0.Which, lj a0.To, lj a0.At.X, lj a0.At.Y, lj a0.F.a0.N, ls a0.F.a0.Text, lj a0.F.a1.N, ls a0.F.a1.Text, lj a0.F.a2.N, ls a0.F.a2.Text, lj a0.F.a3.N, ls a0.F.a3.Text, lj a0.Value.N, ls a0.Value.Text, lj (imin (imax r2.1 (-1000001)) 1000001), lj a0.Session, lj a0.Rect.X0, lj a0.Rect.Y0, lj a0.Rect.X1, lj a0.Rect.Y1])), (1000002, some (.cells [.fn 64 [.ptr 1000003 0, .ptr 1000004 0]])), (1000003, some (.cells [ls a1])), (1000004, some (.cells [lj r2.2.2]))] (.rd 1 [(11, qb true)] [] (.thenN (.seq (.condT (by kernel_rfl) (.skip (.thenN (.seq (.block (.sr 3 [(5, qp 1000001 17), (13, qp 1000001 17), (12, qp 1000000 2)] [] (.st 1 [(15, .one (.fn 64 [.ptr 1000003 0, .ptr 1000004 0]))] [] (.bind (og := F64s0 n a1 r2.2.2) ⟨some 16, POp.gcallv false false [300000, 300001, 300002, 300003, 300004, 300005, 300006, 300007, 1000003, 1000004] [] (Operand.tmp 15) [], none, []⟩ (fun r3 => [(16, .tup [qj r3.1, qj r3.2.1])]) (fun r3 => [(1000003, some (.cells [ls a1])), (1000004, some (.cells [lj r3.2.2]))]) (by kernel_rfl) (fun r3 hr => pOp_eff (by kernel_rfl) (by kernel_rfl) (eff_gcallv (ks := [1000003, 1000004]) (rks := []) (new := []) (ARGS := [qp 1000003 0, qp 1000004 0]) (args1 := [qp 1000003 0, qp 1000004 0]) (args2 := [qp 1000000 0, qp 1000001 0]) (os := [.cells [ls a1], .cells [lj r2.2.2]]) (os' := [.cells [ls a1], .cells [lj r3.2.2]]) (os1 := [.cells [ls a1], .cells [lj r3.2.2]]) (res := .tup [qj r3.1, qj r3.2.1]) (res1 := .tup [qj r3.1, qj r3.2.1]) (r := .tup [qj r3.1, qj r3.2.1]) (N := [(1000003, some (.cells [ls a1])), (1000004, some (.cells [lj r3.2.2]))]) (caps := [.ptr 1000003 0, .ptr 1000004 0]) (by kernel_rfl) (by kernel_rfl) (readA_ow (readA_keep (by kernel_rfl) (readA_keep (by kernel_rfl) (readA_nil)))) (by kernel_rfl) (by kernel_rfl) (by kernel_rfl) (by kernel_rfl) (F64s0_ok n a1 r2.2.2 r3 hr) (by kernel_rfl) (by kernel_rfl) (by kernel_rfl) rfl (by kernel_rfl) (by kernel_rfl) (by kernel_rfl))) (fun r3 => ?_)))))))))))))))))))))))
      refine SimI.rd 5 [(7, qj r3.2.1), (6, qj r3.1), (18, qj r3.2.1), (17, qj r3.1), (14, .tup [qj r3.1, qj r3.2.1])] [] (.thenN (.seq (.sr 2 [(20, qb (r3.2.1 != 0)), (19, qj r3.2.1)] [] (.cond (r3.2.1 != 0) (by kernel_rfl) ?_ ?_))))
      · exact Sim.sr 2 [(3, qj r3.2.1), (21, qj r3.2.1)] [] (.ret (.thenR (.blockR (.thenR (.loopR (.blockR (.thenR .fn)))))))
      · exact Sim.skip (.thenN (.region0 (.rd 6 [(26, qp 1000001 17), (25, qj (imin (imax r3.1 (-1000001)) 1000001)), (24, qj (imax r3.1 (-1000001))), (23, qj r3.1), (22, qp 1000001 17)] [(1000001, some (.cells [lj (imin (imax r1.1 (-1000001)) 1000001), lj a0.ID, lj a0.Which, lj a0.To, lj a0.At.X, lj a0.At.Y, lj a0.F.a0.N, ls a0.F.a0.Text, lj a0.F.a1.N, ls a0.F.a1.Text, lj a0.F.a2.N, ls a0.F.a2.Text, lj a0.F.a3.N, ls a0.F.a3.Text, lj a0.Value.N, ls a0.Value.Text, lj (imin (imax r2.1 (-1000001)) 1000001), lj (imin (imax r3.1 (-1000001)) 1000001), lj a0.Rect.X0, lj a0.Rect.Y0, lj a0.Rect.X1, lj a0.Rect.Y1]))] (.blockN (.thenN (.region0 (.rd 2 [(10, qj 3), (27, qj 3)] [] (.loopN (.succ (.seq (.rg [(1, qp 1000002 0), (8, .one (.csl 1000000 1 0 3)), (9, qj 3), (10, qj 3)] [(1000000, some (.cells [.ptr 1000001 0, .ptr 1000001 16, .ptr 1000001 17])), (1000001, some (.cells [lj (imin (imax r1.1 (-1000001)) 1000001), lj a0.ID, lj a0.Which, lj a0.To, lj a0.At.X, lj a0.At.Y, lj a0.F.a0.N, ls a0.F.a0.Text, lj a0.F.a1.N, ls a0.F.a1.Text, lj a0.F.a2.N, ls a0.F.a2.Text, lj a0.F.a3.N, ls a0.F.a3.Text, lj a0.Value.N, ls a0.Value.Text, lj (imin (imax r2.1 (-1000001)) 1000001), lj (imin (imax r3.1 (-1000001)) 1000001), lj a0.Rect.X0, lj a0.Rect.Y0, lj a0.Rect.X1, lj a0.Rect.Y1])), (1000002, some (.cells [.fn 64 [.ptr 1000003 0, .ptr 1000004 0]])), (1000003, some (.cells [ls a1])), (1000004, some (.cells [lj r3.2.2]))] (.rd 1 [(11, qb false)] [] (.thenN (.seq (.condF (by kernel_rfl) (.exit (.thenX (.loopX (.blockX (.thenN (.sr 1 [(3, qj 0)] [] (.ret .fn))))))))))))))))))))))

def F66s1_e (a0 : Command) (a1 : ByteArray) (a2 : Int) : (Int × Command × Int) → PV × List Ob := fun r => (.one (li .i64 r.1), [.cells [.ptr 1000001 18, .ptr 1000001 19, .ptr 1000001 20, .ptr 1000001 21], .cells (Command.cells r.2.1), .cells [.fn 64 [.ptr 1000003 0, .ptr 1000004 0]], .cells [ls a1], .cells [li .i64 r.2.2]])
def F66s1 (n : Nat) (a0 : Command) (a1 : ByteArray) (a2 : Int) : Option (Int × Command × Int) :=
  (F64s0 n a1 a2).bind fun (r1 : (Int × Int × Int)) =>
  if r1.2.1 != 0 then
    some (r1.2.1, a0, r1.2.2)
  else
    (F64s0 n a1 r1.2.2).bind fun (r2 : (Int × Int × Int)) =>
    if r2.2.1 != 0 then
      some (r2.2.1, (Command.mk a0.Kind a0.ID a0.Which a0.To a0.At a0.F a0.Value a0.Client a0.Session (Rect.mk (imin (imax r1.1 (-1000001)) 1000001) a0.Rect.Y0 a0.Rect.X1 a0.Rect.Y1)), r2.2.2)
    else
      (F64s0 n a1 r2.2.2).bind fun (r3 : (Int × Int × Int)) =>
      if r3.2.1 != 0 then
        some (r3.2.1, (Command.mk a0.Kind a0.ID a0.Which a0.To a0.At a0.F a0.Value a0.Client a0.Session (Rect.mk (imin (imax r1.1 (-1000001)) 1000001) (imin (imax r2.1 (-1000001)) 1000001) a0.Rect.X1 a0.Rect.Y1)), r3.2.2)
      else
        (F64s0 n a1 r3.2.2).bind fun (r4 : (Int × Int × Int)) =>
        if r4.2.1 != 0 then
          some (r4.2.1, (Command.mk a0.Kind a0.ID a0.Which a0.To a0.At a0.F a0.Value a0.Client a0.Session (Rect.mk (imin (imax r1.1 (-1000001)) 1000001) (imin (imax r2.1 (-1000001)) 1000001) (imin (imax r3.1 (-1000001)) 1000001) a0.Rect.Y1)), r4.2.2)
        else
          some (0, (Command.mk a0.Kind a0.ID a0.Which a0.To a0.At a0.F a0.Value a0.Client a0.Session (Rect.mk (imin (imax r1.1 (-1000001)) 1000001) (imin (imax r2.1 (-1000001)) 1000001) (imin (imax r3.1 (-1000001)) 1000001) (imin (imax r4.1 (-1000001)) 1000001))), r4.2.2)
theorem F66s1_ok (n : Nat) (a0 : Command) (a1 : ByteArray) (a2 : Int) : ∀ r, F66s1 n a0 a1 a2 = some r → D 66 [.one (.csl 1000000 1 0 4), .one (.ptr 1000002 0)] [.cells [.ptr 1000001 18, .ptr 1000001 19, .ptr 1000001 20, .ptr 1000001 21], .cells (Command.cells a0), .cells [.fn 64 [.ptr 1000003 0, .ptr 1000004 0]], .cells [ls a1], .cells [li .i64 a2]] = some ((F66s1_e a0 a1 a2) r) := by
  refine fn_to (D := D) (n := n + 8) (nt := 28) (rs := pc66_r) (c := p66c32) (L := [(0, .one (.csl 1000000 1 0 4)), (1, qp 1000002 0)]) (M := [(1000000, some (.cells [.ptr 1000001 18, .ptr 1000001 19, .ptr 1000001 20, .ptr 1000001 21])), (1000001, some (.cells (Command.cells a0))), (1000002, some (.cells [.fn 64 [.ptr 1000003 0, .ptr 1000004 0]])), (1000003, some (.cells [ls a1])), (1000004, some (.cells [lj a2]))]) (k := 5) rfl rfl rfl rfl rfl rfl rfl ?_
  unfold F66s1
  refine Sim.sr 1 [(3, qj 0)] [] (.seq (.sr 3 [(10, qj 0), (9, qj 4), (8, .one (.csl 1000000 1 0 4))] [] (.block (.loop (.succ (.seq (.rg [(1, qp 1000002 0), (8, .one (.csl 1000000 1 0 4)), (9, qj 4), (10, qj 0)] [(1000000, some (.cells [.ptr 1000001 18, .ptr 1000001 19, .ptr 1000001 20, .ptr 1000001 21])), (1000001, some (.cells (Command.cells a0))), (1000002, some (.cells [.fn 64 [.ptr 1000003 0, .ptr 1000004 0]])), (1000003, some (.cells [ls a1])), (1000004, some (.cells [lj a2]))] (.rd 1 [(11, qb true)] [] (.thenN (.seq (.condT (by kernel_rfl) (.skip (.thenN (.seq (.block (.sr 3 [(5, qp 1000001 18), (13, qp 1000001 18), (12, qp 1000000 0)] [] (.st 1 [(15, .one (.fn 64 [.ptr 1000003 0, .ptr 1000004 0]))] [] (.bind (og := F64s0 n a1 a2) ⟨some 16, POp.gcallv false false [300000, 300001, 300002, 300003, 300004, 300005, 300006, 300007, 1000003, 1000004] [] (Operand.tmp 15) [], none, []⟩ (fun r1 => [(16, .tup [qj r1.1, qj r1.2.1])]) (fun r1 => [(1000003, some (.cells [ls a1])), (1000004, some (.cells [lj r1.2.2]))]) (by kernel_rfl) (fun r1 hr => pOp_eff (by kernel_rfl) (by kernel_rfl) (eff_gcallv (ks := [1000003, 1000004]) (rks := []) (new := []) (ARGS := [qp 1000003 0, qp 1000004 0]) (args1 := [qp 1000003 0, qp 1000004 0]) (args2 := [qp 1000000 0, qp 1000001 0]) (os := [.cells [ls a1], .cells [lj a2]]) (os' := [.cells [ls a1], .cells [lj r1.2.2]]) (os1 := [.cells [ls a1], .cells [lj r1.2.2]]) (res := .tup [qj r1.1, qj r1.2.1]) (res1 := .tup [qj r1.1, qj r1.2.1]) (r := .tup [qj r1.1, qj r1.2.1]) (N := [(1000003, some (.cells [ls a1])), (1000004, some (.cells [lj r1.2.2]))]) (caps := [.ptr 1000003 0, .ptr 1000004 0]) (by kernel_rfl) (by kernel_rfl) (readA_ow (readA_keep (by kernel_rfl) (readA_keep (by kernel_rfl) (readA_nil)))) (by kernel_rfl) (by kernel_rfl) (by kernel_rfl) (by kernel_rfl) (F64s0_ok n a1 a2 r1 hr) (by kernel_rfl) (by kernel_rfl) (by kernel_rfl) rfl (by kernel_rfl) (by kernel_rfl) (by kernel_rfl))) (fun r1 => ?_)))))))))))))))))))
  refine SimI.rd 5 [(7, qj r1.2.1), (6, qj r1.1), (18, qj r1.2.1), (17, qj r1.1), (14, .tup [qj r1.1, qj r1.2.1])] [] (.thenN (.seq (.sr 2 [(20, qb (r1.2.1 != 0)), (19, qj r1.2.1)] [] (.cond (r1.2.1 != 0) (by kernel_rfl) ?_ ?_))))
  · exact Sim.sr 2 [(3, qj r1.2.1), (21, qj r1.2.1)] [] (.ret (.thenR (.blockR (.thenR (.loopR (.blockR (.thenR .fn)))))))
  · refine Sim.skip (.thenN (.region0 (.rd 6 [(26, qp 1000001 18), (25, qj (imin (imax r1.1 (-1000001)) 1000001)), (24, qj (imax r1.1 (-1000001))), (23, qj r1.1), (22, qp 1000001 18)] [(1000001, some (.cells [lj a0.Kind, lj a0.ID, lj a0.Which, lj a0.To, lj a0.At.X, lj a0.At.Y, lj a0.F.a0.N, ls a0.F.a0.Text, lj a0.F.a1.N, ls a0.F.a1.Text, lj a0.F.a2.N, ls a0.F.a2.Text, lj a0.F.a3.N, ls a0.F.a3.Text, lj a0.Value.N, ls a0.Value.Text, lj a0.Client, lj a0.Session, lj (imin (imax r1.1 (-1000001)) 1000001), lj a0.Rect.Y0, lj a0.Rect.X1, lj a0.Rect.Y1]))] (.blockN (.thenN (.region0 (.rd 2 [(10, qj 1), (27, qj 1)] [] (.loopN (.succ (.seq (.rg [(1, qp 1000002 0), (8, .one (.csl 1000000 1 0 4)), (9, qj 4), (10, qj 1)] [(1000000, some (.cells [.ptr 1000001 18, .ptr 1000001 19, .ptr 1000001 20, .ptr 1000001 21])), (1000001, some (.cells [lj a0.Kind, lj a0.ID, lj a0.Which, lj a0.To, lj a0.At.X, lj a0.At.Y, lj a0.F.a0.N, ls a0.F.a0.Text, lj a0.F.a1.N, ls a0.F.a1.Text, lj a0.F.a2.N, ls a0.F.a2.Text, lj a0.F.a3.N, ls a0.F.a3.Text, lj a0.Value.N, ls a0.Value.Text, lj a0.Client, lj a0.Session, lj (imin (imax r1.1 (-1000001)) 1000001), lj a0.Rect.Y0, lj a0.Rect.X1, lj a0.Rect.Y1])), (1000002, some (.cells [.fn 64 [.ptr 1000003 0, .ptr 1000004 0]])), (1000003, some (.cells [ls a1])), (1000004, some (.cells [lj r1.2.2]))] (.rd 1 [(11, qb true)] [] (.thenN (.seq (.condT (by kernel_rfl) (.skip (.thenN (.seq (.block (.sr 3 [(5, qp 1000001 19), (13, qp 1000001 19), (12, qp 1000000 1)] [] (.st 1 [(15, .one (.fn 64 [.ptr 1000003 0, .ptr 1000004 0]))] [] (.bind (og := F64s0 n a1 r1.2.2) ⟨some 16, POp.gcallv false false [300000, 300001, 300002, 300003, 300004, 300005, 300006, 300007, 1000003, 1000004] [] (Operand.tmp 15) [], none, []⟩ (fun r2 => [(16, .tup [qj r2.1, qj r2.2.1])]) (fun r2 => [(1000003, some (.cells [ls a1])), (1000004, some (.cells [lj r2.2.2]))]) (by kernel_rfl) (fun r2 hr => pOp_eff (by kernel_rfl) (by kernel_rfl) (eff_gcallv (ks := [1000003, 1000004]) (rks := []) (new := []) (ARGS := [qp 1000003 0, qp 1000004 0]) (args1 := [qp 1000003 0, qp 1000004 0]) (args2 := [qp 1000000 0, qp 1000001 0]) (os := [.cells [ls a1], .cells [lj r1.2.2]]) (os' := [.cells [ls a1], .cells [lj r2.2.2]]) (os1 := [.cells [ls a1], .cells [lj r2.2.2]]) (res := .tup [qj r2.1, qj r2.2.1]) (res1 := .tup [qj r2.1, qj r2.2.1]) (r := .tup [qj r2.1, qj r2.2.1]) (N := [(1000003, some (.cells [ls a1])), (1000004, some (.cells [lj r2.2.2]))]) (caps := [.ptr 1000003 0, .ptr 1000004 0]) (by kernel_rfl) (by kernel_rfl) (readA_ow (readA_keep (by kernel_rfl) (readA_keep (by kernel_rfl) (readA_nil)))) (by kernel_rfl) (by kernel_rfl) (by kernel_rfl) (by kernel_rfl) (F64s0_ok n a1 r1.2.2 r2 hr) (by kernel_rfl) (by kernel_rfl) (by kernel_rfl) rfl (by kernel_rfl) (by kernel_rfl) (by kernel_rfl))) (fun r2 => ?_)))))))))))))))))))))))
    refine SimI.rd 5 [(7, qj r2.2.1), (6, qj r2.1), (18, qj r2.2.1), (17, qj r2.1), (14, .tup [qj r2.1, qj r2.2.1])] [] (.thenN (.seq (.sr 2 [(20, qb (r2.2.1 != 0)), (19, qj r2.2.1)] [] (.cond (r2.2.1 != 0) (by kernel_rfl) ?_ ?_))))
    · exact Sim.sr 2 [(3, qj r2.2.1), (21, qj r2.2.1)] [] (.ret (.thenR (.blockR (.thenR (.loopR (.blockR (.thenR .fn)))))))
    · refine Sim.skip (.thenN (.region0 (.rd 6 [(26, qp 1000001 19), (25, qj (imin (imax r2.1 (-1000001)) 1000001)), (24, qj (imax r2.1 (-1000001))), (23, qj r2.1), (22, qp 1000001 19)] [(1000001, some (.cells [lj a0.Kind, lj a0.ID, lj a0.Which, lj a0.To, lj a0.At.X, lj a0.At.Y, lj a0.F.a0.N, ls a0.F.a0.Text, lj a0.F.a1.N, ls a0.F.a1.Text, lj a0.F.a2.N, ls a0.F.a2.Text, lj a0.F.a3.N, ls a0.F.a3.Text, lj a0.Value.N, ls a0.Value.Text, lj a0.Client, lj a0.Session, lj (imin (imax r1.1 (-1000001)) 1000001), lj (imin (imax r2.1 (-1000001)) 1000001), lj a0.Rect.X1, lj a0.Rect.Y1]))] (.blockN (.thenN (.region0 (.rd 2 [(10, qj 2), (27, qj 2)] [] (.loopN (.succ (.seq (.rg [(1, qp 1000002 0), (8, .one (.csl 1000000 1 0 4)), (9, qj 4), (10, qj 2)] [(1000000, some (.cells [.ptr 1000001 18, .ptr 1000001 19, .ptr 1000001 20, .ptr 1000001 21])), (1000001, some (.cells [lj a0.Kind, lj a0.ID, lj a0.Which, lj a0.To, lj a0.At.X, lj a0.At.Y, lj a0.F.a0.N, ls a0.F.a0.Text, lj a0.F.a1.N, ls a0.F.a1.Text, lj a0.F.a2.N, ls a0.F.a2.Text, lj a0.F.a3.N, ls a0.F.a3.Text, lj a0.Value.N, ls a0.Value.Text, lj a0.Client, lj a0.Session, lj (imin (imax r1.1 (-1000001)) 1000001), lj (imin (imax r2.1 (-1000001)) 1000001), lj a0.Rect.X1, lj a0.Rect.Y1])), (1000002, some (.cells [.fn 64 [.ptr 1000003 0, .ptr 1000004 0]])), (1000003, some (.cells [ls a1])), (1000004, some (.cells [lj r2.2.2]))] (.rd 1 [(11, qb true)] [] (.thenN (.seq (.condT (by kernel_rfl) (.skip (.thenN (.seq (.block (.sr 3 [(5, qp 1000001 20), (13, qp 1000001 20), (12, qp 1000000 2)] [] (.st 1 [(15, .one (.fn 64 [.ptr 1000003 0, .ptr 1000004 0]))] [] (.bind (og := F64s0 n a1 r2.2.2) ⟨some 16, POp.gcallv false false [300000, 300001, 300002, 300003, 300004, 300005, 300006, 300007, 1000003, 1000004] [] (Operand.tmp 15) [], none, []⟩ (fun r3 => [(16, .tup [qj r3.1, qj r3.2.1])]) (fun r3 => [(1000003, some (.cells [ls a1])), (1000004, some (.cells [lj r3.2.2]))]) (by kernel_rfl) (fun r3 hr => pOp_eff (by kernel_rfl) (by kernel_rfl) (eff_gcallv (ks := [1000003, 1000004]) (rks := []) (new := []) (ARGS := [qp 1000003 0, qp 1000004 0]) (args1 := [qp 1000003 0, qp 1000004 0]) (args2 := [qp 1000000 0, qp 1000001 0]) (os := [.cells [ls a1], .cells [lj r2.2.2]]) (os' := [.cells [ls a1], .cells [lj r3.2.2]]) (os1 := [.cells [ls a1], .cells [lj r3.2.2]]) (res := .tup [qj r3.1, qj r3.2.1]) (res1 := .tup [qj r3.1, qj r3.2.1]) (r := .tup [qj r3.1, qj r3.2.1]) (N := [(1000003, some (.cells [ls a1])), (1000004, some (.cells [lj r3.2.2]))]) (caps := [.ptr 1000003 0, .ptr 1000004 0]) (by kernel_rfl) (by kernel_rfl) (readA_ow (readA_keep (by kernel_rfl) (readA_keep (by kernel_rfl) (readA_nil)))) (by kernel_rfl) (by kernel_rfl) (by kernel_rfl) (by kernel_rfl) (F64s0_ok n a1 r2.2.2 r3 hr) (by kernel_rfl) (by kernel_rfl) (by kernel_rfl) rfl (by kernel_rfl) (by kernel_rfl) (by kernel_rfl))) (fun r3 => ?_)))))))))))))))))))))))
      refine SimI.rd 5 [(7, qj r3.2.1), (6, qj r3.1), (18, qj r3.2.1), (17, qj r3.1), (14, .tup [qj r3.1, qj r3.2.1])] [] (.thenN (.seq (.sr 2 [(20, qb (r3.2.1 != 0)), (19, qj r3.2.1)] [] (.cond (r3.2.1 != 0) (by kernel_rfl) ?_ ?_))))
      · exact Sim.sr 2 [(3, qj r3.2.1), (21, qj r3.2.1)] [] (.ret (.thenR (.blockR (.thenR (.loopR (.blockR (.thenR .fn)))))))
      · refine Sim.skip (.thenN (.region0 (.rd 6 [(26, qp 1000001 20), (25, qj (imin (imax r3.1 (-1000001)) 1000001)), (24, qj (imax r3.1 (-1000001))), (23, qj r3.1), (22, qp 1000001 20)] [(1000001, some (.cells [lj a0.Kind, lj a0.ID, lj a0.Which, lj a0.To, lj a0.At.X, lj a0.At.Y, lj a0.F.a0.N, ls a0.F.a0.Text, lj a0.F.a1.N, ls a0.F.a1.Text, lj a0.F.a2.N, ls a0.F.a2.Text, lj a0.F.a3.N, ls a0.F.a3.Text, lj a0.Value.N, ls a0.Value.Text, lj a0.Client, lj a0.Session, lj (imin (imax r1.1 (-1000001)) 1000001), lj (imin (imax r2.1 (-1000001)) 1000001), lj (imin (imax r3.1 (-1000001)) 1000001), lj a0.Rect.Y1]))] (.blockN (.thenN (.region0 (.rd 2 [(10, qj 3), (27, qj 3)] [] (.loopN (.succ (.seq (.rg [(1, qp 1000002 0), (8, .one (.csl 1000000 1 0 4)), (9, qj 4), (10, qj 3)] [(1000000, some (.cells [.ptr 1000001 18, .ptr 1000001 19, .ptr 1000001 20, .ptr 1000001 21])), (1000001, some (.cells [lj a0.Kind, lj a0.ID, lj a0.Which, lj a0.To, lj a0.At.X, lj a0.At.Y, lj a0.F.a0.N, ls a0.F.a0.Text, lj a0.F.a1.N, ls a0.F.a1.Text, lj a0.F.a2.N, ls a0.F.a2.Text, lj a0.F.a3.N, ls a0.F.a3.Text, lj a0.Value.N, ls a0.Value.Text, lj a0.Client, lj a0.Session, lj (imin (imax r1.1 (-1000001)) 1000001), lj (imin (imax r2.1 (-1000001)) 1000001), lj (imin (imax r3.1 (-1000001)) 1000001), lj a0.Rect.Y1])), (1000002, some (.cells [.fn 64 [.ptr 1000003 0, .ptr 1000004 0]])), (1000003, some (.cells [ls a1])), (1000004, some (.cells [lj r3.2.2]))] (.rd 1 [(11, qb true)] [] (.thenN (.seq (.condT (by kernel_rfl) (.skip (.thenN (.seq (.block (.sr 3 [(5, qp 1000001 21), (13, qp 1000001 21), (12, qp 1000000 3)] [] (.st 1 [(15, .one (.fn 64 [.ptr 1000003 0, .ptr 1000004 0]))] [] (.bind (og := F64s0 n a1 r3.2.2) ⟨some 16, POp.gcallv false false [300000, 300001, 300002, 300003, 300004, 300005, 300006, 300007, 1000003, 1000004] [] (Operand.tmp 15) [], none, []⟩ (fun r4 => [(16, .tup [qj r4.1, qj r4.2.1])]) (fun r4 => [(1000003, some (.cells [ls a1])), (1000004, some (.cells [lj r4.2.2]))]) (by kernel_rfl) (fun r4 hr => pOp_eff (by kernel_rfl) (by kernel_rfl) (eff_gcallv (ks := [1000003, 1000004]) (rks := []) (new := []) (ARGS := [qp 1000003 0, qp 1000004 0]) (args1 := [qp 1000003 0, qp 1000004 0]) (args2 := [qp 1000000 0, qp 1000001 0]) (os := [.cells [ls a1], .cells [lj r3.2.2]]) (os' := [.cells [ls a1], .cells [lj r4.2.2]]) (os1 := [.cells [ls a1], .cells [lj r4.2.2]]) (res := .tup [qj r4.1, qj r4.2.1]) (res1 := .tup [qj r4.1, qj r4.2.1]) (r := .tup [qj r4.1, qj r4.2.1]) (N := [(1000003, some (.cells [ls a1])), (1000004, some (.cells [lj r4.2.2]))]) (caps := [.ptr 1000003 0, .ptr 1000004 0]) (by kernel_rfl) (by kernel_rfl) (readA_ow (readA_keep (by kernel_rfl) (readA_keep (by kernel_rfl) (readA_nil)))) (by kernel_rfl) (by kernel_rfl) (by kernel_rfl) (by kernel_rfl) (F64s0_ok n a1 r3.2.2 r4 hr) (by kernel_rfl) (by kernel_rfl) (by kernel_rfl) rfl (by kernel_rfl) (by kernel_rfl) (by kernel_rfl))) (fun r4 => ?_)))))))))))))))))))))))
        refine SimI.rd 5 [(7, qj r4.2.1), (6, qj r4.1), (18, qj r4.2.1), (17, qj r4.1), (14, .tup [qj r4.1, qj r4.2.1])] [] (.thenN (.seq (.sr 2 [(20, qb (r4.2.1 != 0)), (19, qj r4.2.1)] [] (.cond (r4.2.1 != 0) (by kernel_rfl) ?_ ?_))))
        · exact Sim.sr 2 [(3, qj r4.2.1), (21, qj r4.2.1)] [] (.ret (.thenR (.blockR (.thenR (.loopR (.blockR (.thenR .fn)))))))
        · exact Sim.skip (.thenN (.region0 (.rd 6 [(26, qp 1000001 21), (25, qj (imin (imax r4.1 (-1000001)) 1000001)), (24, qj (imax r4.1 (-1000001))), (23, qj r4.1), (22, qp 1000001 21)] [(1000001, some (.cells [lj a0.Kind, lj a0.ID, lj a0.Which, lj a0.To, lj a0.At.X, lj a0.At.Y, lj a0.F.a0.N, ls a0.F.a0.Text, lj a0.F.a1.N, ls a0.F.a1.Text, lj a0.F.a2.N, ls a0.F.a2.Text, lj a0.F.a3.N, ls a0.F.a3.Text, lj a0.Value.N, ls a0.Value.Text, lj a0.Client, lj a0.Session, lj (imin (imax r1.1 (-1000001)) 1000001), lj (imin (imax r2.1 (-1000001)) 1000001), lj (imin (imax r3.1 (-1000001)) 1000001), lj (imin (imax r4.1 (-1000001)) 1000001)]))] (.blockN (.thenN (.region0 (.rd 2 [(10, qj 4), (27, qj 4)] [] (.loopN (.succ (.seq (.rg [(1, qp 1000002 0), (8, .one (.csl 1000000 1 0 4)), (9, qj 4), (10, qj 4)] [(1000000, some (.cells [.ptr 1000001 18, .ptr 1000001 19, .ptr 1000001 20, .ptr 1000001 21])), (1000001, some (.cells [lj a0.Kind, lj a0.ID, lj a0.Which, lj a0.To, lj a0.At.X, lj a0.At.Y, lj a0.F.a0.N, ls a0.F.a0.Text, lj a0.F.a1.N, ls a0.F.a1.Text, lj a0.F.a2.N, ls a0.F.a2.Text, lj a0.F.a3.N, ls a0.F.a3.Text, lj a0.Value.N, ls a0.Value.Text, lj a0.Client, lj a0.Session, lj (imin (imax r1.1 (-1000001)) 1000001), lj (imin (imax r2.1 (-1000001)) 1000001), lj (imin (imax r3.1 (-1000001)) 1000001), lj (imin (imax r4.1 (-1000001)) 1000001)])), (1000002, some (.cells [.fn 64 [.ptr 1000003 0, .ptr 1000004 0]])), (1000003, some (.cells [ls a1])), (1000004, some (.cells [lj r4.2.2]))] (.rd 1 [(11, qb false)] [] (.thenN (.seq (.condF (by kernel_rfl) (.exit (.thenX (.loopX (.blockX (.thenN (.sr 1 [(3, qj 0)] [] (.ret .fn))))))))))))))))))))))

def F66s2_e (a0 : Command) (a1 : ByteArray) (a2 : Int) : (Int × Command × Int) → PV × List Ob := fun r => (.one (li .i64 r.1), [.cells [.ptr 1000001 2, .ptr 1000001 3], .cells (Command.cells r.2.1), .cells [.fn 64 [.ptr 1000003 0, .ptr 1000004 0]], .cells [ls a1], .cells [li .i64 r.2.2]])
def F66s2 (n : Nat) (a0 : Command) (a1 : ByteArray) (a2 : Int) : Option (Int × Command × Int) :=
  (F64s0 n a1 a2).bind fun (r1 : (Int × Int × Int)) =>
  if r1.2.1 != 0 then
    some (r1.2.1, a0, r1.2.2)
  else
    (F64s0 n a1 r1.2.2).bind fun (r2 : (Int × Int × Int)) =>
    if r2.2.1 != 0 then
      some (r2.2.1, (Command.mk a0.Kind a0.ID (imin (imax r1.1 (-1000001)) 1000001) a0.To a0.At a0.F a0.Value a0.Client a0.Session a0.Rect), r2.2.2)
    else
      some (0, (Command.mk a0.Kind a0.ID (imin (imax r1.1 (-1000001)) 1000001) (imin (imax r2.1 (-1000001)) 1000001) a0.At a0.F a0.Value a0.Client a0.Session a0.Rect), r2.2.2)
theorem F66s2_ok (n : Nat) (a0 : Command) (a1 : ByteArray) (a2 : Int) : ∀ r, F66s2 n a0 a1 a2 = some r → D 66 [.one (.csl 1000000 1 0 2), .one (.ptr 1000002 0)] [.cells [.ptr 1000001 2, .ptr 1000001 3], .cells (Command.cells a0), .cells [.fn 64 [.ptr 1000003 0, .ptr 1000004 0]], .cells [ls a1], .cells [li .i64 a2]] = some ((F66s2_e a0 a1 a2) r) := by
  refine fn_to (D := D) (n := n + 8) (nt := 28) (rs := pc66_r) (c := p66c32) (L := [(0, .one (.csl 1000000 1 0 2)), (1, qp 1000002 0)]) (M := [(1000000, some (.cells [.ptr 1000001 2, .ptr 1000001 3])), (1000001, some (.cells (Command.cells a0))), (1000002, some (.cells [.fn 64 [.ptr 1000003 0, .ptr 1000004 0]])), (1000003, some (.cells [ls a1])), (1000004, some (.cells [lj a2]))]) (k := 5) rfl rfl rfl rfl rfl rfl rfl ?_
  unfold F66s2
  refine Sim.sr 1 [(3, qj 0)] [] (.seq (.sr 3 [(10, qj 0), (9, qj 2), (8, .one (.csl 1000000 1 0 2))] [] (.block (.loop (.succ (.seq (.rg [(1, qp 1000002 0), (8, .one (.csl 1000000 1 0 2)), (9, qj 2), (10, qj 0)] [(1000000, some (.cells [.ptr 1000001 2, .ptr 1000001 3])), (1000001, some (.cells (Command.cells a0))), (1000002, some (.cells [.fn 64 [.ptr 1000003 0, .ptr 1000004 0]])), (1000003, some (.cells [ls a1])), (1000004, some (.cells [lj a2]))] (.rd 1 [(11, qb true)] [] (.thenN (.seq (.condT (by kernel_rfl) (.skip (.thenN (.seq (.block (.sr 3 [(5, qp 1000001 2), (13, qp 1000001 2), (12, qp 1000000 0)] [] (.st 1 [(15, .one (.fn 64 [.ptr 1000003 0, .ptr 1000004 0]))] [] (.bind (og := F64s0 n a1 a2) ⟨some 16, POp.gcallv false false [300000, 300001, 300002, 300003, 300004, 300005, 300006, 300007, 1000003, 1000004] [] (Operand.tmp 15) [], none, []⟩ (fun r1 => [(16, .tup [qj r1.1, qj r1.2.1])]) (fun r1 => [(1000003, some (.cells [ls a1])), (1000004, some (.cells [lj r1.2.2]))]) (by kernel_rfl) (fun r1 hr => pOp_eff (by kernel_rfl) (by kernel_rfl) (eff_gcallv (ks := [1000003, 1000004]) (rks := []) (new := []) (ARGS := [qp 1000003 0, qp 1000004 0]) (args1 := [qp 1000003 0, qp 1000004 0]) (args2 := [qp 1000000 0, qp 1000001 0]) (os := [.cells [ls a1], .cells [lj a2]]) (os' := [.cells [ls a1], .cells [lj r1.2.2]]) (os1 := [.cells [ls a1], .cells [lj r1.2.2]]) (res := .tup [qj r1.1, qj r1.2.1]) (res1 := .tup [qj r1.1, qj r1.2.1]) (r := .tup [qj r1.1, qj r1.2.1]) (N := [(1000003, some (.cells [ls a1])), (1000004, some (.cells [lj r1.2.2]))]) (caps := [.ptr 1000003 0, .ptr 1000004 0]) (by kernel_rfl) (by kernel_rfl) (readA_ow (readA_keep (by kernel_rfl) (readA_keep (by kernel_rfl) (readA_nil)))) (by kernel_rfl) (by kernel_rfl) (by kernel_rfl) (by kernel_rfl) (F64s0_ok n a1 a2 r1 hr) (by kernel_rfl) (by kernel_rfl) (by kernel_rfl) rfl (by kernel_rfl) (by kernel_rfl) (by kernel_rfl))) (fun r1 => ?_)))))))))))))))))))
  refine SimI.rd 5 [(7, qj r1.2.1), (6, qj r1.1), (18, qj r1.2.1), (17, qj r1.1), (14, .tup [qj r1.1, qj r1.2.1])] [] (.thenN (.seq (.sr 2 [(20, qb (r1.2.1 != 0)), (19, qj r1.2.1)] [] (.cond (r1.2.1 != 0) (by kernel_rfl) ?_ ?_))))
  · exact Sim.sr 2 [(3, qj r1.2.1), (21, qj r1.2.1)] [] (.ret (.thenR (.blockR (.thenR (.loopR (.blockR (.thenR .fn)))))))
  · refine Sim.skip (.thenN (.region0 (.rd 6 [(26, qp 1000001 2), (25, qj (imin (imax r1.1 (-1000001)) 1000001)), (24, qj (imax r1.1 (-1000001))), (23, qj r1.1), (22, qp 1000001 2)] [(1000001, some (.cells [lj a0.Kind, lj a0.ID, lj (imin (imax r1.1 (-1000001)) 1000001), lj a0.To, lj a0.At.X, lj a0.At.Y, lj a0.F.a0.N, ls a0.F.a0.Text, lj a0.F.a1.N, ls a0.F.a1.Text, lj a0.F.a2.N, ls a0.F.a2.Text, lj a0.F.a3.N, ls a0.F.a3.Text, lj a0.Value.N, ls a0.Value.Text, lj a0.Client, lj a0.Session, lj a0.Rect.X0, lj a0.Rect.Y0, lj a0.Rect.X1, lj a0.Rect.Y1]))] (.blockN (.thenN (.region0 (.rd 2 [(10, qj 1), (27, qj 1)] [] (.loopN (.succ (.seq (.rg [(1, qp 1000002 0), (8, .one (.csl 1000000 1 0 2)), (9, qj 2), (10, qj 1)] [(1000000, some (.cells [.ptr 1000001 2, .ptr 1000001 3])), (1000001, some (.cells [lj a0.Kind, lj a0.ID, lj (imin (imax r1.1 (-1000001)) 1000001), lj a0.To, lj a0.At.X, lj a0.At.Y, lj a0.F.a0.N, ls a0.F.a0.Text, lj a0.F.a1.N, ls a0.F.a1.Text, lj a0.F.a2.N, ls a0.F.a2.Text, lj a0.F.a3.N, ls a0.F.a3.Text, lj a0.Value.N, ls a0.Value.Text, lj a0.Client, lj a0.Session, lj a0.Rect.X0, lj a0.Rect.Y0, lj a0.Rect.X1, lj a0.Rect.Y1])), (1000002, some (.cells [.fn 64 [.ptr 1000003 0, .ptr 1000004 0]])), (1000003, some (.cells [ls a1])), (1000004, some (.cells [lj r1.2.2]))] (.rd 1 [(11, qb true)] [] (.thenN (.seq (.condT (by kernel_rfl) (.skip (.thenN (.seq (.block (.sr 3 [(5, qp 1000001 3), (13, qp 1000001 3), (12, qp 1000000 1)] [] (.st 1 [(15, .one (.fn 64 [.ptr 1000003 0, .ptr 1000004 0]))] [] (.bind (og := F64s0 n a1 r1.2.2) ⟨some 16, POp.gcallv false false [300000, 300001, 300002, 300003, 300004, 300005, 300006, 300007, 1000003, 1000004] [] (Operand.tmp 15) [], none, []⟩ (fun r2 => [(16, .tup [qj r2.1, qj r2.2.1])]) (fun r2 => [(1000003, some (.cells [ls a1])), (1000004, some (.cells [lj r2.2.2]))]) (by kernel_rfl) (fun r2 hr => pOp_eff (by kernel_rfl) (by kernel_rfl) (eff_gcallv (ks := [1000003, 1000004]) (rks := []) (new := []) (ARGS := [qp 1000003 0, qp 1000004 0]) (args1 := [qp 1000003 0, qp 1000004 0]) (args2 := [qp 1000000 0, qp 1000001 0]) (os := [.cells [ls a1], .cells [lj r1.2.2]]) (os' := [.cells [ls a1], .cells [lj r2.2.2]]) (os1 := [.cells [ls a1], .cells [lj r2.2.2]]) (res := .tup [qj r2.1, qj r2.2.1]) (res1 := .tup [qj r2.1, qj r2.2.1]) (r := .tup [qj r2.1, qj r2.2.1]) (N := [(1000003, some (.cells [ls a1])), (1000004, some (.cells [lj r2.2.2]))]) (caps := [.ptr 1000003 0, .ptr 1000004 0]) (by kernel_rfl) (by kernel_rfl) (readA_ow (readA_keep (by kernel_rfl) (readA_keep (by kernel_rfl) (readA_nil)))) (by kernel_rfl) (by kernel_rfl) (by kernel_rfl) (by kernel_rfl) (F64s0_ok n a1 r1.2.2 r2 hr) (by kernel_rfl) (by kernel_rfl) (by kernel_rfl) rfl (by kernel_rfl) (by kernel_rfl) (by kernel_rfl))) (fun r2 => ?_)))))))))))))))))))))))
    refine SimI.rd 5 [(7, qj r2.2.1), (6, qj r2.1), (18, qj r2.2.1), (17, qj r2.1), (14, .tup [qj r2.1, qj r2.2.1])] [] (.thenN (.seq (.sr 2 [(20, qb (r2.2.1 != 0)), (19, qj r2.2.1)] [] (.cond (r2.2.1 != 0) (by kernel_rfl) ?_ ?_))))
    · exact Sim.sr 2 [(3, qj r2.2.1), (21, qj r2.2.1)] [] (.ret (.thenR (.blockR (.thenR (.loopR (.blockR (.thenR .fn)))))))
    · exact Sim.skip (.thenN (.region0 (.rd 6 [(26, qp 1000001 3), (25, qj (imin (imax r2.1 (-1000001)) 1000001)), (24, qj (imax r2.1 (-1000001))), (23, qj r2.1), (22, qp 1000001 3)] [(1000001, some (.cells [lj a0.Kind, lj a0.ID, lj (imin (imax r1.1 (-1000001)) 1000001), lj (imin (imax r2.1 (-1000001)) 1000001), lj a0.At.X, lj a0.At.Y, lj a0.F.a0.N, ls a0.F.a0.Text, lj a0.F.a1.N, ls a0.F.a1.Text, lj a0.F.a2.N, ls a0.F.a2.Text, lj a0.F.a3.N, ls a0.F.a3.Text, lj a0.Value.N, ls a0.Value.Text, lj a0.Client, lj a0.Session, lj a0.Rect.X0, lj a0.Rect.Y0, lj a0.Rect.X1, lj a0.Rect.Y1]))] (.blockN (.thenN (.region0 (.rd 2 [(10, qj 2), (27, qj 2)] [] (.loopN (.succ (.seq (.rg [(1, qp 1000002 0), (8, .one (.csl 1000000 1 0 2)), (9, qj 2), (10, qj 2)] [(1000000, some (.cells [.ptr 1000001 2, .ptr 1000001 3])), (1000001, some (.cells [lj a0.Kind, lj a0.ID, lj (imin (imax r1.1 (-1000001)) 1000001), lj (imin (imax r2.1 (-1000001)) 1000001), lj a0.At.X, lj a0.At.Y, lj a0.F.a0.N, ls a0.F.a0.Text, lj a0.F.a1.N, ls a0.F.a1.Text, lj a0.F.a2.N, ls a0.F.a2.Text, lj a0.F.a3.N, ls a0.F.a3.Text, lj a0.Value.N, ls a0.Value.Text, lj a0.Client, lj a0.Session, lj a0.Rect.X0, lj a0.Rect.Y0, lj a0.Rect.X1, lj a0.Rect.Y1])), (1000002, some (.cells [.fn 64 [.ptr 1000003 0, .ptr 1000004 0]])), (1000003, some (.cells [ls a1])), (1000004, some (.cells [lj r2.2.2]))] (.rd 1 [(11, qb false)] [] (.thenN (.seq (.condF (by kernel_rfl) (.exit (.thenX (.loopX (.blockX (.thenN (.sr 1 [(3, qj 0)] [] (.ret .fn))))))))))))))))))))))

def F66s3_e (a0 : Command) (a1 : ByteArray) (a2 : Int) : (Int × Command × Int) → PV × List Ob := fun r => (.one (li .i64 r.1), [.cells [.ptr 1000001 1], .cells (Command.cells r.2.1), .cells [.fn 64 [.ptr 1000003 0, .ptr 1000004 0]], .cells [ls a1], .cells [li .i64 r.2.2]])
def F66s3 (n : Nat) (a0 : Command) (a1 : ByteArray) (a2 : Int) : Option (Int × Command × Int) :=
  (F64s0 n a1 a2).bind fun (r1 : (Int × Int × Int)) =>
  if r1.2.1 != 0 then
    some (r1.2.1, a0, r1.2.2)
  else
    some (0, (Command.mk a0.Kind (imin (imax r1.1 (-1000001)) 1000001) a0.Which a0.To a0.At a0.F a0.Value a0.Client a0.Session a0.Rect), r1.2.2)
theorem F66s3_ok (n : Nat) (a0 : Command) (a1 : ByteArray) (a2 : Int) : ∀ r, F66s3 n a0 a1 a2 = some r → D 66 [.one (.csl 1000000 1 0 1), .one (.ptr 1000002 0)] [.cells [.ptr 1000001 1], .cells (Command.cells a0), .cells [.fn 64 [.ptr 1000003 0, .ptr 1000004 0]], .cells [ls a1], .cells [li .i64 a2]] = some ((F66s3_e a0 a1 a2) r) := by
  refine fn_to (D := D) (n := n + 8) (nt := 28) (rs := pc66_r) (c := p66c32) (L := [(0, .one (.csl 1000000 1 0 1)), (1, qp 1000002 0)]) (M := [(1000000, some (.cells [.ptr 1000001 1])), (1000001, some (.cells (Command.cells a0))), (1000002, some (.cells [.fn 64 [.ptr 1000003 0, .ptr 1000004 0]])), (1000003, some (.cells [ls a1])), (1000004, some (.cells [lj a2]))]) (k := 5) rfl rfl rfl rfl rfl rfl rfl ?_
  unfold F66s3
  refine Sim.sr 1 [(3, qj 0)] [] (.seq (.sr 3 [(10, qj 0), (9, qj 1), (8, .one (.csl 1000000 1 0 1))] [] (.block (.loop (.succ (.seq (.rg [(1, qp 1000002 0), (8, .one (.csl 1000000 1 0 1)), (9, qj 1), (10, qj 0)] [(1000000, some (.cells [.ptr 1000001 1])), (1000001, some (.cells (Command.cells a0))), (1000002, some (.cells [.fn 64 [.ptr 1000003 0, .ptr 1000004 0]])), (1000003, some (.cells [ls a1])), (1000004, some (.cells [lj a2]))] (.rd 1 [(11, qb true)] [] (.thenN (.seq (.condT (by kernel_rfl) (.skip (.thenN (.seq (.block (.sr 3 [(5, qp 1000001 1), (13, qp 1000001 1), (12, qp 1000000 0)] [] (.st 1 [(15, .one (.fn 64 [.ptr 1000003 0, .ptr 1000004 0]))] [] (.bind (og := F64s0 n a1 a2) ⟨some 16, POp.gcallv false false [300000, 300001, 300002, 300003, 300004, 300005, 300006, 300007, 1000003, 1000004] [] (Operand.tmp 15) [], none, []⟩ (fun r1 => [(16, .tup [qj r1.1, qj r1.2.1])]) (fun r1 => [(1000003, some (.cells [ls a1])), (1000004, some (.cells [lj r1.2.2]))]) (by kernel_rfl) (fun r1 hr => pOp_eff (by kernel_rfl) (by kernel_rfl) (eff_gcallv (ks := [1000003, 1000004]) (rks := []) (new := []) (ARGS := [qp 1000003 0, qp 1000004 0]) (args1 := [qp 1000003 0, qp 1000004 0]) (args2 := [qp 1000000 0, qp 1000001 0]) (os := [.cells [ls a1], .cells [lj a2]]) (os' := [.cells [ls a1], .cells [lj r1.2.2]]) (os1 := [.cells [ls a1], .cells [lj r1.2.2]]) (res := .tup [qj r1.1, qj r1.2.1]) (res1 := .tup [qj r1.1, qj r1.2.1]) (r := .tup [qj r1.1, qj r1.2.1]) (N := [(1000003, some (.cells [ls a1])), (1000004, some (.cells [lj r1.2.2]))]) (caps := [.ptr 1000003 0, .ptr 1000004 0]) (by kernel_rfl) (by kernel_rfl) (readA_ow (readA_keep (by kernel_rfl) (readA_keep (by kernel_rfl) (readA_nil)))) (by kernel_rfl) (by kernel_rfl) (by kernel_rfl) (by kernel_rfl) (F64s0_ok n a1 a2 r1 hr) (by kernel_rfl) (by kernel_rfl) (by kernel_rfl) rfl (by kernel_rfl) (by kernel_rfl) (by kernel_rfl))) (fun r1 => ?_)))))))))))))))))))
  refine SimI.rd 5 [(7, qj r1.2.1), (6, qj r1.1), (18, qj r1.2.1), (17, qj r1.1), (14, .tup [qj r1.1, qj r1.2.1])] [] (.thenN (.seq (.sr 2 [(20, qb (r1.2.1 != 0)), (19, qj r1.2.1)] [] (.cond (r1.2.1 != 0) (by kernel_rfl) ?_ ?_))))
  · exact Sim.sr 2 [(3, qj r1.2.1), (21, qj r1.2.1)] [] (.ret (.thenR (.blockR (.thenR (.loopR (.blockR (.thenR .fn)))))))
  · exact Sim.skip (.thenN (.region0 (.rd 6 [(26, qp 1000001 1), (25, qj (imin (imax r1.1 (-1000001)) 1000001)), (24, qj (imax r1.1 (-1000001))), (23, qj r1.1), (22, qp 1000001 1)] [(1000001, some (.cells [lj a0.Kind, lj (imin (imax r1.1 (-1000001)) 1000001), lj a0.Which, lj a0.To, lj a0.At.X, lj a0.At.Y, lj a0.F.a0.N, ls a0.F.a0.Text, lj a0.F.a1.N, ls a0.F.a1.Text, lj a0.F.a2.N, ls a0.F.a2.Text, lj a0.F.a3.N, ls a0.F.a3.Text, lj a0.Value.N, ls a0.Value.Text, lj a0.Client, lj a0.Session, lj a0.Rect.X0, lj a0.Rect.Y0, lj a0.Rect.X1, lj a0.Rect.Y1]))] (.blockN (.thenN (.region0 (.rd 2 [(10, qj 1), (27, qj 1)] [] (.loopN (.succ (.seq (.rg [(1, qp 1000002 0), (8, .one (.csl 1000000 1 0 1)), (9, qj 1), (10, qj 1)] [(1000000, some (.cells [.ptr 1000001 1])), (1000001, some (.cells [lj a0.Kind, lj (imin (imax r1.1 (-1000001)) 1000001), lj a0.Which, lj a0.To, lj a0.At.X, lj a0.At.Y, lj a0.F.a0.N, ls a0.F.a0.Text, lj a0.F.a1.N, ls a0.F.a1.Text, lj a0.F.a2.N, ls a0.F.a2.Text, lj a0.F.a3.N, ls a0.F.a3.Text, lj a0.Value.N, ls a0.Value.Text, lj a0.Client, lj a0.Session, lj a0.Rect.X0, lj a0.Rect.Y0, lj a0.Rect.X1, lj a0.Rect.Y1])), (1000002, some (.cells [.fn 64 [.ptr 1000003 0, .ptr 1000004 0]])), (1000003, some (.cells [ls a1])), (1000004, some (.cells [lj r1.2.2]))] (.rd 1 [(11, qb false)] [] (.thenN (.seq (.condF (by kernel_rfl) (.exit (.thenX (.loopX (.blockX (.thenN (.sr 1 [(3, qj 0)] [] (.ret .fn))))))))))))))))))))))

def F66s4_e (a0 : Command) (a1 : ByteArray) (a2 : Int) : (Int × Command × Int) → PV × List Ob := fun r => (.one (li .i64 r.1), [.cells [.ptr 1000001 1, .ptr 1000001 2], .cells (Command.cells r.2.1), .cells [.fn 64 [.ptr 1000003 0, .ptr 1000004 0]], .cells [ls a1], .cells [li .i64 r.2.2]])
def F66s4 (n : Nat) (a0 : Command) (a1 : ByteArray) (a2 : Int) : Option (Int × Command × Int) :=
  (F64s0 n a1 a2).bind fun (r1 : (Int × Int × Int)) =>
  if r1.2.1 != 0 then
    some (r1.2.1, a0, r1.2.2)
  else
    (F64s0 n a1 r1.2.2).bind fun (r2 : (Int × Int × Int)) =>
    if r2.2.1 != 0 then
      some (r2.2.1, (Command.mk a0.Kind (imin (imax r1.1 (-1000001)) 1000001) a0.Which a0.To a0.At a0.F a0.Value a0.Client a0.Session a0.Rect), r2.2.2)
    else
      some (0, (Command.mk a0.Kind (imin (imax r1.1 (-1000001)) 1000001) (imin (imax r2.1 (-1000001)) 1000001) a0.To a0.At a0.F a0.Value a0.Client a0.Session a0.Rect), r2.2.2)
theorem F66s4_ok (n : Nat) (a0 : Command) (a1 : ByteArray) (a2 : Int) : ∀ r, F66s4 n a0 a1 a2 = some r → D 66 [.one (.csl 1000000 1 0 2), .one (.ptr 1000002 0)] [.cells [.ptr 1000001 1, .ptr 1000001 2], .cells (Command.cells a0), .cells [.fn 64 [.ptr 1000003 0, .ptr 1000004 0]], .cells [ls a1], .cells [li .i64 a2]] = some ((F66s4_e a0 a1 a2) r) := by
  refine fn_to (D := D) (n := n + 8) (nt := 28) (rs := pc66_r) (c := p66c32) (L := [(0, .one (.csl 1000000 1 0 2)), (1, qp 1000002 0)]) (M := [(1000000, some (.cells [.ptr 1000001 1, .ptr 1000001 2])), (1000001, some (.cells (Command.cells a0))), (1000002, some (.cells [.fn 64 [.ptr 1000003 0, .ptr 1000004 0]])), (1000003, some (.cells [ls a1])), (1000004, some (.cells [lj a2]))]) (k := 5) rfl rfl rfl rfl rfl rfl rfl ?_
  unfold F66s4
  refine Sim.sr 1 [(3, qj 0)] [] (.seq (.sr 3 [(10, qj 0), (9, qj 2), (8, .one (.csl 1000000 1 0 2))] [] (.block (.loop (.succ (.seq (.rg [(1, qp 1000002 0), (8, .one (.csl 1000000 1 0 2)), (9, qj 2), (10, qj 0)] [(1000000, some (.cells [.ptr 1000001 1, .ptr 1000001 2])), (1000001, some (.cells (Command.cells a0))), (1000002, some (.cells [.fn 64 [.ptr 1000003 0, .ptr 1000004 0]])), (1000003, some (.cells [ls a1])), (1000004, some (.cells [lj a2]))] (.rd 1 [(11, qb true)] [] (.thenN (.seq (.condT (by kernel_rfl) (.skip (.thenN (.seq (.block (.sr 3 [(5, qp 1000001 1), (13, qp 1000001 1), (12, qp 1000000 0)] [] (.st 1 [(15, .one (.fn 64 [.ptr 1000003 0, .ptr 1000004 0]))] [] (.bind (og := F64s0 n a1 a2) ⟨some 16, POp.gcallv false false [300000, 300001, 300002, 300003, 300004, 300005, 300006, 300007, 1000003, 1000004] [] (Operand.tmp 15) [], none, []⟩ (fun r1 => [(16, .tup [qj r1.1, qj r1.2.1])]) (fun r1 => [(1000003, some (.cells [ls a1])), (1000004, some (.cells [lj r1.2.2]))]) (by kernel_rfl) (fun r1 hr => pOp_eff (by kernel_rfl) (by kernel_rfl) (eff_gcallv (ks := [1000003, 1000004]) (rks := []) (new := []) (ARGS := [qp 1000003 0, qp 1000004 0]) (args1 := [qp 1000003 0, qp 1000004 0]) (args2 := [qp 1000000 0, qp 1000001 0]) (os := [.cells [ls a1], .cells [lj a2]]) (os' := [.cells [ls a1], .cells [lj r1.2.2]]) (os1 := [.cells [ls a1], .cells [lj r1.2.2]]) (res := .tup [qj r1.1, qj r1.2.1]) (res1 := .tup [qj r1.1, qj r1.2.1]) (r := .tup [qj r1.1, qj r1.2.1]) (N := [(1000003, some (.cells [ls a1])), (1000004, some (.cells [lj r1.2.2]))]) (caps := [.ptr 1000003 0, .ptr 1000004 0]) (by kernel_rfl) (by kernel_rfl) (readA_ow (readA_keep (by kernel_rfl) (readA_keep (by kernel_rfl) (readA_nil)))) (by kernel_rfl) (by kernel_rfl) (by kernel_rfl) (by kernel_rfl) (F64s0_ok n a1 a2 r1 hr) (by kernel_rfl) (by kernel_rfl) (by kernel_rfl) rfl (by kernel_rfl) (by kernel_rfl) (by kernel_rfl))) (fun r1 => ?_)))))))))))))))))))
  refine SimI.rd 5 [(7, qj r1.2.1), (6, qj r1.1), (18, qj r1.2.1), (17, qj r1.1), (14, .tup [qj r1.1, qj r1.2.1])] [] (.thenN (.seq (.sr 2 [(20, qb (r1.2.1 != 0)), (19, qj r1.2.1)] [] (.cond (r1.2.1 != 0) (by kernel_rfl) ?_ ?_))))
  · exact Sim.sr 2 [(3, qj r1.2.1), (21, qj r1.2.1)] [] (.ret (.thenR (.blockR (.thenR (.loopR (.blockR (.thenR .fn)))))))
  · refine Sim.skip (.thenN (.region0 (.rd 6 [(26, qp 1000001 1), (25, qj (imin (imax r1.1 (-1000001)) 1000001)), (24, qj (imax r1.1 (-1000001))), (23, qj r1.1), (22, qp 1000001 1)] [(1000001, some (.cells [lj a0.Kind, lj (imin (imax r1.1 (-1000001)) 1000001), lj a0.Which, lj a0.To, lj a0.At.X, lj a0.At.Y, lj a0.F.a0.N, ls a0.F.a0.Text, lj a0.F.a1.N, ls a0.F.a1.Text, lj a0.F.a2.N, ls a0.F.a2.Text, lj a0.F.a3.N, ls a0.F.a3.Text, lj a0.Value.N, ls a0.Value.Text, lj a0.Client, lj a0.Session, lj a0.Rect.X0, lj a0.Rect.Y0, lj a0.Rect.X1, lj a0.Rect.Y1]))] (.blockN (.thenN (.region0 (.rd 2 [(10, qj 1), (27, qj 1)] [] (.loopN (.succ (.seq (.rg [(1, qp 1000002 0), (8, .one (.csl 1000000 1 0 2)), (9, qj 2), (10, qj 1)] [(1000000, some (.cells [.ptr 1000001 1, .ptr 1000001 2])), (1000001, some (.cells [lj a0.Kind, lj (imin (imax r1.1 (-1000001)) 1000001), lj a0.Which, lj a0.To, lj a0.At.X, lj a0.At.Y, lj a0.F.a0.N, ls a0.F.a0.Text, lj a0.F.a1.N, ls a0.F.a1.Text, lj a0.F.a2.N, ls a0.F.a2.Text, lj a0.F.a3.N, ls a0.F.a3.Text, lj a0.Value.N, ls a0.Value.Text, lj a0.Client, lj a0.Session, lj a0.Rect.X0, lj a0.Rect.Y0, lj a0.Rect.X1, lj a0.Rect.Y1])), (1000002, some (.cells [.fn 64 [.ptr 1000003 0, .ptr 1000004 0]])), (1000003, some (.cells [ls a1])), (1000004, some (.cells [lj r1.2.2]))] (.rd 1 [(11, qb true)] [] (.thenN (.seq (.condT (by kernel_rfl) (.skip (.thenN (.seq (.block (.sr 3 [(5, qp 1000001 2), (13, qp 1000001 2), (12, qp 1000000 1)] [] (.st 1 [(15, .one (.fn 64 [.ptr 1000003 0, .ptr 1000004 0]))] [] (.bind (og := F64s0 n a1 r1.2.2) ⟨some 16, POp.gcallv false false [300000, 300001, 300002, 300003, 300004, 300005, 300006, 300007, 1000003, 1000004] [] (Operand.tmp 15) [], none, []⟩ (fun r2 => [(16, .tup [qj r2.1, qj r2.2.1])]) (fun r2 => [(1000003, some (.cells [ls a1])), (1000004, some (.cells [lj r2.2.2]))]) (by kernel_rfl) (fun r2 hr => pOp_eff (by kernel_rfl) (by kernel_rfl) (eff_gcallv (ks := [1000003, 1000004]) (rks := []) (new := []) (ARGS := [qp 1000003 0, qp 1000004 0]) (args1 := [qp 1000003 0, qp 1000004 0]) (args2 := [qp 1000000 0, qp 1000001 0]) (os := [.cells [ls a1], .cells [lj r1.2.2]]) (os' := [.cells [ls a1], .cells [lj r2.2.2]]) (os1 := [.cells [ls a1], .cells [lj r2.2.2]]) (res := .tup [qj r2.1, qj r2.2.1]) (res1 := .tup [qj r2.1, qj r2.2.1]) (r := .tup [qj r2.1, qj r2.2.1]) (N := [(1000003, some (.cells [ls a1])), (1000004, some (.cells [lj r2.2.2]))]) (caps := [.ptr 1000003 0, .ptr 1000004 0]) (by kernel_rfl) (by kernel_rfl) (readA_ow (readA_keep (by kernel_rfl) (readA_keep (by kernel_rfl) (readA_nil)))) (by kernel_rfl) (by kernel_rfl) (by kernel_rfl) (by kernel_rfl) (F64s0_ok n a1 r1.2.2 r2 hr) (by kernel_rfl) (by kernel_rfl) (by kernel_rfl) rfl (by kernel_rfl) (by kernel_rfl) (by kernel_rfl))) (fun r2 => ?_)))))))))))))))))))))))
    refine SimI.rd 5 [(7, qj r2.2.1), (6, qj r2.1), (18, qj r2.2.1), (17, qj r2.1), (14, .tup [qj r2.1, qj r2.2.1])] [] (.thenN (.seq (.sr 2 [(20, qb (r2.2.1 != 0)), (19, qj r2.2.1)] [] (.cond (r2.2.1 != 0) (by kernel_rfl) ?_ ?_))))
    · exact Sim.sr 2 [(3, qj r2.2.1), (21, qj r2.2.1)] [] (.ret (.thenR (.blockR (.thenR (.loopR (.blockR (.thenR .fn)))))))
    · exact Sim.skip (.thenN (.region0 (.rd 6 [(26, qp 1000001 2), (25, qj (imin (imax r2.1 (-1000001)) 1000001)), (24, qj (imax r2.1 (-1000001))), (23, qj r2.1), (22, qp 1000001 2)] [(1000001, some (.cells [lj a0.Kind, lj (imin (imax r1.1 (-1000001)) 1000001), lj (imin (imax r2.1 (-1000001)) 1000001), lj a0.To, lj a0.At.X, lj a0.At.Y, lj a0.F.a0.N, ls a0.F.a0.Text, lj a0.F.a1.N, ls a0.F.a1.Text, lj a0.F.a2.N, ls a0.F.a2.Text, lj a0.F.a3.N, ls a0.F.a3.Text, lj a0.Value.N, ls a0.Value.Text, lj a0.Client, lj a0.Session, lj a0.Rect.X0, lj a0.Rect.Y0, lj a0.Rect.X1, lj a0.Rect.Y1]))] (.blockN (.thenN (.region0 (.rd 2 [(10, qj 2), (27, qj 2)] [] (.loopN (.succ (.seq (.rg [(1, qp 1000002 0), (8, .one (.csl 1000000 1 0 2)), (9, qj 2), (10, qj 2)] [(1000000, some (.cells [.ptr 1000001 1, .ptr 1000001 2])), (1000001, some (.cells [lj a0.Kind, lj (imin (imax r1.1 (-1000001)) 1000001), lj (imin (imax r2.1 (-1000001)) 1000001), lj a0.To, lj a0.At.X, lj a0.At.Y, lj a0.F.a0.N, ls a0.F.a0.Text, lj a0.F.a1.N, ls a0.F.a1.Text, lj a0.F.a2.N, ls a0.F.a2.Text, lj a0.F.a3.N, ls a0.F.a3.Text, lj a0.Value.N, ls a0.Value.Text, lj a0.Client, lj a0.Session, lj a0.Rect.X0, lj a0.Rect.Y0, lj a0.Rect.X1, lj a0.Rect.Y1])), (1000002, some (.cells [.fn 64 [.ptr 1000003 0, .ptr 1000004 0]])), (1000003, some (.cells [ls a1])), (1000004, some (.cells [lj r2.2.2]))] (.rd 1 [(11, qb false)] [] (.thenN (.seq (.condF (by kernel_rfl) (.exit (.thenX (.loopX (.blockX (.thenN (.sr 1 [(3, qj 0)] [] (.ret .fn))))))))))))))))))))))

def F66s5_e (a0 : Command) (a1 : ByteArray) (a2 : Int) : (Int × Command × Int) → PV × List Ob := fun r => (.one (li .i64 r.1), [.cells [.ptr 1000001 1, .ptr 1000001 4, .ptr 1000001 5], .cells (Command.cells r.2.1), .cells [.fn 64 [.ptr 1000003 0, .ptr 1000004 0]], .cells [ls a1], .cells [li .i64 r.2.2]])
def F66s5 (n : Nat) (a0 : Command) (a1 : ByteArray) (a2 : Int) : Option (Int × Command × Int) :=
  (F64s0 n a1 a2).bind fun (r1 : (Int × Int × Int)) =>
  if r1.2.1 != 0 then
    some (r1.2.1, a0, r1.2.2)
  else
    (F64s0 n a1 r1.2.2).bind fun (r2 : (Int × Int × Int)) =>
    if r2.2.1 != 0 then
      some (r2.2.1, (Command.mk a0.Kind (imin (imax r1.1 (-1000001)) 1000001) a0.Which a0.To a0.At a0.F a0.Value a0.Client a0.Session a0.Rect), r2.2.2)
    else
      (F64s0 n a1 r2.2.2).bind fun (r3 : (Int × Int × Int)) =>
      if r3.2.1 != 0 then
        some (r3.2.1, (Command.mk a0.Kind (imin (imax r1.1 (-1000001)) 1000001) a0.Which a0.To (Point.mk (imin (imax r2.1 (-1000001)) 1000001) a0.At.Y) a0.F a0.Value a0.Client a0.Session a0.Rect), r3.2.2)
      else
        some (0, (Command.mk a0.Kind (imin (imax r1.1 (-1000001)) 1000001) a0.Which a0.To (Point.mk (imin (imax r2.1 (-1000001)) 1000001) (imin (imax r3.1 (-1000001)) 1000001)) a0.F a0.Value a0.Client a0.Session a0.Rect), r3.2.2)
theorem F66s5_ok (n : Nat) (a0 : Command) (a1 : ByteArray) (a2 : Int) : ∀ r, F66s5 n a0 a1 a2 = some r → D 66 [.one (.csl 1000000 1 0 3), .one (.ptr 1000002 0)] [.cells [.ptr 1000001 1, .ptr 1000001 4, .ptr 1000001 5], .cells (Command.cells a0), .cells [.fn 64 [.ptr 1000003 0, .ptr 1000004 0]], .cells [ls a1], .cells [li .i64 a2]] = some ((F66s5_e a0 a1 a2) r) := by
  refine fn_to (D := D) (n := n + 8) (nt := 28) (rs := pc66_r) (c := p66c32) (L := [(0, .one (.csl 1000000 1 0 3)), (1, qp 1000002 0)]) (M := [(1000000, some (.cells [.ptr 1000001 1, .ptr 1000001 4, .ptr 1000001 5])), (1000001, some (.cells (Command.cells a0))), (1000002, some (.cells [.fn 64 [.ptr 1000003 0, .ptr 1000004 0]])), (1000003, some (.cells [ls a1])), (1000004, some (.cells [lj a2]))]) (k := 5) rfl rfl rfl rfl rfl rfl rfl ?_
  unfold F66s5
  refine Sim.sr 1 [(3, qj 0)] [] (.seq (.sr 3 [(10, qj 0), (9, qj 3), (8, .one (.csl 1000000 1 0 3))] [] (.block (.loop (.succ (.seq (.rg [(1, qp 1000002 0), (8, .one (.csl 1000000 1 0 3)), (9, qj 3), (10, qj 0)] [(1000000, some (.cells [.ptr 1000001 1, .ptr 1000001 4, .ptr 1000001 5])), (1000001, some (.cells (Command.cells a0))), (1000002, some (.cells [.fn 64 [.ptr 1000003 0, .ptr 1000004 0]])), (1000003, some (.cells [ls a1])), (1000004, some (.cells [lj a2]))] (.rd 1 [(11, qb true)] [] (.thenN (.seq (.condT (by kernel_rfl) (.skip (.thenN (.seq (.block (.sr 3 [(5, qp 1000001 1), (13, qp 1000001 1), (12, qp 1000000 0)] [] (.st 1 [(15, .one (.fn 64 [.ptr 1000003 0, .ptr 1000004 0]))] [] (.bind (og := F64s0 n a1 a2) ⟨some 16, POp.gcallv false false [300000, 300001, 300002, 300003, 300004, 300005, 300006, 300007, 1000003, 1000004] [] (Operand.tmp 15) [], none, []⟩ (fun r1 => [(16, .tup [qj r1.1, qj r1.2.1])]) (fun r1 => [(1000003, some (.cells [ls a1])), (1000004, some (.cells [lj r1.2.2]))]) (by kernel_rfl) (fun r1 hr => pOp_eff (by kernel_rfl) (by kernel_rfl) (eff_gcallv (ks := [1000003, 1000004]) (rks := []) (new := []) (ARGS := [qp 1000003 0, qp 1000004 0]) (args1 := [qp 1000003 0, qp 1000004 0]) (args2 := [qp 1000000 0, qp 1000001 0]) (os := [.cells [ls a1], .cells [lj a2]]) (os' := [.cells [ls a1], .cells [lj r1.2.2]]) (os1 := [.cells [ls a1], .cells [lj r1.2.2]]) (res := .tup [qj r1.1, qj r1.2.1]) (res1 := .tup [qj r1.1, qj r1.2.1]) (r := .tup [qj r1.1, qj r1.2.1]) (N := [(1000003, some (.cells [ls a1])), (1000004, some (.cells [lj r1.2.2]))]) (caps := [.ptr 1000003 0, .ptr 1000004 0]) (by kernel_rfl) (by kernel_rfl) (readA_ow (readA_keep (by kernel_rfl) (readA_keep (by kernel_rfl) (readA_nil)))) (by kernel_rfl) (by kernel_rfl) (by kernel_rfl) (by kernel_rfl) (F64s0_ok n a1 a2 r1 hr) (by kernel_rfl) (by kernel_rfl) (by kernel_rfl) rfl (by kernel_rfl) (by kernel_rfl) (by kernel_rfl))) (fun r1 => ?_)))))))))))))))))))
  refine SimI.rd 5 [(7, qj r1.2.1), (6, qj r1.1), (18, qj r1.2.1), (17, qj r1.1), (14, .tup [qj r1.1, qj r1.2.1])] [] (.thenN (.seq (.sr 2 [(20, qb (r1.2.1 != 0)), (19, qj r1.2.1)] [] (.cond (r1.2.1 != 0) (by kernel_rfl) ?_ ?_))))
  · exact Sim.sr 2 [(3, qj r1.2.1), (21, qj r1.2.1)] [] (.ret (.thenR (.blockR (.thenR (.loopR (.blockR (.thenR .fn)))))))
  · refine Sim.skip (.thenN (.region0 (.rd 6 [(26, qp 1000001 1), (25, qj (imin (imax r1.1 (-1000001)) 1000001)), (24, qj (imax r1.1 (-1000001))), (23, qj r1.1), (22, qp 1000001 1)] [(1000001, some (.cells [lj a0.Kind, lj (imin (imax r1.1 (-1000001)) 1000001), lj a0.Which, lj a0.To, lj a0.At.X, lj a0.At.Y, lj a0.F.a0.N, ls a0.F.a0.Text, lj a0.F.a1.N, ls a0.F.a1.Text, lj a0.F.a2.N, ls a0.F.a2.Text, lj a0.F.a3.N, ls a0.F.a3.Text, lj a0.Value.N, ls a0.Value.Text, lj a0.Client, lj a0.Session, lj a0.Rect.X0, lj a0.Rect.Y0, lj a0.Rect.X1, lj a0.Rect.Y1]))] (.blockN (.thenN (.region0 (.rd 2 [(10, qj 1), (27, qj 1)] [] (.loopN (.succ (.seq (.rg [(1, qp 1000002 0), (8, .one (.csl 1000000 1 0 3)), (9, qj 3), (10, qj 1)] [(1000000, some (.cells [.ptr 1000001 1, .ptr 1000001 4, .ptr 1000001 5])), (1000001, some (.cells [lj a0.Kind, lj (imin (imax r1.1 (-1000001)) 1000001), lj a0.Which, lj a0.To, lj a0.At.X, lj a0.At.Y, lj a0.F.a0.N, ls a0.F.a0.Text, lj a0.F.a1.N, ls a0.F.a1.Text, lj a0.F.a2.N, ls a0.F.a2.Text, lj a0.F.a3.N, ls a0.F.a3.Text, lj a0.Value.N, ls a0.Value.Text, lj a0.Client, lj a0.Session, lj a0.Rect.X0, lj a0.Rect.Y0, lj a0.Rect.X1, lj a0.Rect.Y1])), (1000002, some (.cells [.fn 64 [.ptr 1000003 0, .ptr 1000004 0]])), (1000003, some (.cells [ls a1])), (1000004, some (.cells [lj r1.2.2]))] (.rd 1 [(11, qb true)] [] (.thenN (.seq (.condT (by kernel_rfl) (.skip (.thenN (.seq (.block (.sr 3 [(5, qp 1000001 4), (13, qp 1000001 4), (12, qp 1000000 1)] [] (.st 1 [(15, .one (.fn 64 [.ptr 1000003 0, .ptr 1000004 0]))] [] (.bind (og := F64s0 n a1 r1.2.2) ⟨some 16, POp.gcallv false false [300000, 300001, 300002, 300003, 300004, 300005, 300006, 300007, 1000003, 1000004] [] (Operand.tmp 15) [], none, []⟩ (fun r2 => [(16, .tup [qj r2.1, qj r2.2.1])]) (fun r2 => [(1000003, some (.cells [ls a1])), (1000004, some (.cells [lj r2.2.2]))]) (by kernel_rfl) (fun r2 hr => pOp_eff (by kernel_rfl) (by kernel_rfl) (eff_gcallv (ks := [1000003, 1000004]) (rks := []) (new := []) (ARGS := [qp 1000003 0, qp 1000004 0]) (args1 := [qp 1000003 0, qp 1000004 0]) (args2 := [qp 1000000 0, qp 1000001 0]) (os := [.cells [ls a1], .cells [lj r1.2.2]]) (os' := [.cells [ls a1], .cells [lj r2.2.2]]) (os1 := [.cells [ls a1], .cells [lj r2.2.2]]) (res := .tup [qj r2.1, qj r2.2.1]) (res1 := .tup [qj r2.1, qj r2.2.1]) (r := .tup [qj r2.1, qj r2.2.1]) (N := [(1000003, some (.cells [ls a1])), (1000004, some (.cells [lj r2.2.2]))]) (caps := [.ptr 1000003 0, .ptr 1000004 0]) (by kernel_rfl) (by kernel_rfl) (readA_ow (readA_keep (by kernel_rfl) (readA_keep (by kernel_rfl) (readA_nil)))) (by kernel_rfl) (by kernel_rfl) (by kernel_rfl) (by kernel_rfl) (F64s0_ok n a1 r1.2.2 r2 hr) (by kernel_rfl) (by kernel_rfl) (by kernel_rfl) rfl (by kernel_rfl) (by kernel_rfl) (by kernel_rfl))) (fun r2 => ?_)))))))))))))))))))))))
    refine SimI.rd 5 [(7, qj r2.2.1), (6, qj r2.1), (18, qj r2.2.1), (17, qj r2.1), (14, .tup [qj r2.1, qj r2.2.1])] [] (.thenN (.seq (.sr 2 [(20, qb (r2.2.1 != 0)), (19, qj r2.2.1)] [] (.cond (r2.2.1 != 0) (by kernel_rfl) ?_ ?_))))
    · exact Sim.sr 2 [(3, qj r2.2.1), (21, qj r2.2.1)] [] (.ret (.thenR (.blockR (.thenR (.loopR (.blockR (.thenR .fn)))))))
    · refine Sim.skip (.thenN (.region0 (.rd 6 [(26, qp 1000001 4), (25, qj (imin (imax r2.1 (-1000001)) 1000001)), (24, qj (imax r2.1 (-1000001))), (23, qj r2.1), (22, qp 1000001 4)] [(1000001, some (.cells [lj a0.Kind, lj (imin (imax r1.1 (-1000001)) 1000001), lj a0.Which, lj a0.To, lj (imin (imax r2.1 (-1000001)) 1000001), lj a0.At.Y, lj a0.F.a0.N, ls a0.F.a0.Text, lj a0.F.a1.N, ls a0.F.a1.Text, lj a0.F.a2.N, ls a0.F.a2.Text, lj a0.F.a3.N, ls a0.F.a3.Text, lj a0.Value.N, ls a0.Value.Text, lj a0.Client, lj a0.Session, lj a0.Rect.X0, lj a0.Rect.Y0, lj a0.Rect.X1, lj a0.Rect.Y1]))] (.blockN (.thenN (.region0 (.rd 2 [(10, qj 2), (27, qj 2)] [] (.loopN (.succ (.seq (.rg [(1, qp 1000002 0), (8, .one (.csl 1000000 1 0 3)), (9, qj 3), (10, qj 2)] [(1000000, some (.cells [.ptr 1000001 1, .ptr 1000001 4, .ptr 1000001 5])), (1000001, some (.cells [lj a0.Kind, lj (imin (imax r1.1 (-1000001)) 1000001), lj a0.Which, lj a0.To, lj (imin (imax r2.1 (-1000001)) 1000001), lj a0.At.Y, lj a0.F.a0.N, ls a0.F.a0.Text, lj a0.F.a1.N, ls a0.F.a1.Text, lj a0.F.a2.N, ls a0.F.a2.Text, lj a0.F.a3.N, ls a0.F.a3.Text, lj a0.Value.N, ls a0.Value.Text, lj a0.Client, lj a0.Session, lj a0.Rect.X0, lj a0.Rect.Y0, lj a0.Rect.X1, lj a0.Rect.Y1])), (1000002, some (.cells [.fn 64 [.ptr 1000003 0, .ptr 1000004 0]])), (1000003, some (.cells [ls a1])), (1000004, some (.cells [lj r2.2.2]))] (.rd 1 [(11, qb true)] [] (.thenN (.seq (.condT (by kernel_rfl) (.skip (.thenN (.seq (.block (.sr 3 [(5, qp 1000001 5), (13, qp 1000001 5), (12, qp 1000000 2)] [] (.st 1 [(15, .one (.fn 64 [.ptr 1000003 0, .ptr 1000004 0]))] [] (.bind (og := F64s0 n a1 r2.2.2) ⟨some 16, POp.gcallv false false [300000, 300001, 300002, 300003, 300004, 300005, 300006, 300007, 1000003, 1000004] [] (Operand.tmp 15) [], none, []⟩ (fun r3 => [(16, .tup [qj r3.1, qj r3.2.1])]) (fun r3 => [(1000003, some (.cells [ls a1])), (1000004, some (.cells [lj r3.2.2]))]) (by kernel_rfl) (fun r3 hr => pOp_eff (by kernel_rfl) (by kernel_rfl) (eff_gcallv (ks := [1000003, 1000004]) (rks := []) (new := []) (ARGS := [qp 1000003 0, qp 1000004 0]) (args1 := [qp 1000003 0, qp 1000004 0]) (args2 := [qp 1000000 0, qp 1000001 0]) (os := [.cells [ls a1], .cells [lj r2.2.2]]) (os' := [.cells [ls a1], .cells [lj r3.2.2]]) (os1 := [.cells [ls a1], .cells [lj r3.2.2]]) (res := .tup [qj r3.1, qj r3.2.1]) (res1 := .tup [qj r3.1, qj r3.2.1]) (r := .tup [qj r3.1, qj r3.2.1]) (N := [(1000003, some (.cells [ls a1])), (1000004, some (.cells [lj r3.2.2]))]) (caps := [.ptr 1000003 0, .ptr 1000004 0]) (by kernel_rfl) (by kernel_rfl) (readA_ow (readA_keep (by kernel_rfl) (readA_keep (by kernel_rfl) (readA_nil)))) (by kernel_rfl) (by kernel_rfl) (by kernel_rfl) (by kernel_rfl) (F64s0_ok n a1 r2.2.2 r3 hr) (by kernel_rfl) (by kernel_rfl) (by kernel_rfl) rfl (by kernel_rfl) (by kernel_rfl) (by kernel_rfl))) (fun r3 => ?_)))))))))))))))))))))))
      refine SimI.rd 5 [(7, qj r3.2.1), (6, qj r3.1), (18, qj r3.2.1), (17, qj r3.1), (14, .tup [qj r3.1, qj r3.2.1])] [] (.thenN (.seq (.sr 2 [(20, qb (r3.2.1 != 0)), (19, qj r3.2.1)] [] (.cond (r3.2.1 != 0) (by kernel_rfl) ?_ ?_))))
      · exact Sim.sr 2 [(3, qj r3.2.1), (21, qj r3.2.1)] [] (.ret (.thenR (.blockR (.thenR (.loopR (.blockR (.thenR .fn)))))))
      · exact Sim.skip (.thenN (.region0 (.rd 6 [(26, qp 1000001 5), (25, qj (imin (imax r3.1 (-1000001)) 1000001)), (24, qj (imax r3.1 (-1000001))), (23, qj r3.1), (22, qp 1000001 5)] [(1000001, some (.cells [lj a0.Kind, lj (imin (imax r1.1 (-1000001)) 1000001), lj a0.Which, lj a0.To, lj (imin (imax r2.1 (-1000001)) 1000001), lj (imin (imax r3.1 (-1000001)) 1000001), lj a0.F.a0.N, ls a0.F.a0.Text, lj a0.F.a1.N, ls a0.F.a1.Text, lj a0.F.a2.N, ls a0.F.a2.Text, lj a0.F.a3.N, ls a0.F.a3.Text, lj a0.Value.N, ls a0.Value.Text, lj a0.Client, lj a0.Session, lj a0.Rect.X0, lj a0.Rect.Y0, lj a0.Rect.X1, lj a0.Rect.Y1]))] (.blockN (.thenN (.region0 (.rd 2 [(10, qj 3), (27, qj 3)] [] (.loopN (.succ (.seq (.rg [(1, qp 1000002 0), (8, .one (.csl 1000000 1 0 3)), (9, qj 3), (10, qj 3)] [(1000000, some (.cells [.ptr 1000001 1, .ptr 1000001 4, .ptr 1000001 5])), (1000001, some (.cells [lj a0.Kind, lj (imin (imax r1.1 (-1000001)) 1000001), lj a0.Which, lj a0.To, lj (imin (imax r2.1 (-1000001)) 1000001), lj (imin (imax r3.1 (-1000001)) 1000001), lj a0.F.a0.N, ls a0.F.a0.Text, lj a0.F.a1.N, ls a0.F.a1.Text, lj a0.F.a2.N, ls a0.F.a2.Text, lj a0.F.a3.N, ls a0.F.a3.Text, lj a0.Value.N, ls a0.Value.Text, lj a0.Client, lj a0.Session, lj a0.Rect.X0, lj a0.Rect.Y0, lj a0.Rect.X1, lj a0.Rect.Y1])), (1000002, some (.cells [.fn 64 [.ptr 1000003 0, .ptr 1000004 0]])), (1000003, some (.cells [ls a1])), (1000004, some (.cells [lj r3.2.2]))] (.rd 1 [(11, qb false)] [] (.thenN (.seq (.condF (by kernel_rfl) (.exit (.thenX (.loopX (.blockX (.thenN (.sr 1 [(3, qj 0)] [] (.ret .fn))))))))))))))))))))))

def F66s6_e (a0 : Command) (a1 : ByteArray) (a2 : Int) : (Int × Command × Int) → PV × List Ob := fun r => (.one (li .i64 r.1), [.cells [.ptr 1000001 4, .ptr 1000001 5], .cells (Command.cells r.2.1), .cells [.fn 64 [.ptr 1000003 0, .ptr 1000004 0]], .cells [ls a1], .cells [li .i64 r.2.2]])
def F66s6 (n : Nat) (a0 : Command) (a1 : ByteArray) (a2 : Int) : Option (Int × Command × Int) :=
  (F64s0 n a1 a2).bind fun (r1 : (Int × Int × Int)) =>
  if r1.2.1 != 0 then
    some (r1.2.1, a0, r1.2.2)
  else
    (F64s0 n a1 r1.2.2).bind fun (r2 : (Int × Int × Int)) =>
    if r2.2.1 != 0 then
      some (r2.2.1, (Command.mk a0.Kind a0.ID a0.Which a0.To (Point.mk (imin (imax r1.1 (-1000001)) 1000001) a0.At.Y) a0.F a0.Value a0.Client a0.Session a0.Rect), r2.2.2)
    else
      some (0, (Command.mk a0.Kind a0.ID a0.Which a0.To (Point.mk (imin (imax r1.1 (-1000001)) 1000001) (imin (imax r2.1 (-1000001)) 1000001)) a0.F a0.Value a0.Client a0.Session a0.Rect), r2.2.2)
theorem F66s6_ok (n : Nat) (a0 : Command) (a1 : ByteArray) (a2 : Int) : ∀ r, F66s6 n a0 a1 a2 = some r → D 66 [.one (.csl 1000000 1 0 2), .one (.ptr 1000002 0)] [.cells [.ptr 1000001 4, .ptr 1000001 5], .cells (Command.cells a0), .cells [.fn 64 [.ptr 1000003 0, .ptr 1000004 0]], .cells [ls a1], .cells [li .i64 a2]] = some ((F66s6_e a0 a1 a2) r) := by
  refine fn_to (D := D) (n := n + 8) (nt := 28) (rs := pc66_r) (c := p66c32) (L := [(0, .one (.csl 1000000 1 0 2)), (1, qp 1000002 0)]) (M := [(1000000, some (.cells [.ptr 1000001 4, .ptr 1000001 5])), (1000001, some (.cells (Command.cells a0))), (1000002, some (.cells [.fn 64 [.ptr 1000003 0, .ptr 1000004 0]])), (1000003, some (.cells [ls a1])), (1000004, some (.cells [lj a2]))]) (k := 5) rfl rfl rfl rfl rfl rfl rfl ?_
  unfold F66s6
  refine Sim.sr 1 [(3, qj 0)] [] (.seq (.sr 3 [(10, qj 0), (9, qj 2), (8, .one (.csl 1000000 1 0 2))] [] (.block (.loop (.succ (.seq (.rg [(1, qp 1000002 0), (8, .one (.csl 1000000 1 0 2)), (9, qj 2), (10, qj 0)] [(1000000, some (.cells [.ptr 1000001 4, .ptr 1000001 5])), (1000001, some (.cells (Command.cells a0))), (1000002, some (.cells [.fn 64 [.ptr 1000003 0, .ptr 1000004 0]])), (1000003, some (.cells [ls a1])), (1000004, some (.cells [lj a2]))] (.rd 1 [(11, qb true)] [] (.thenN (.seq (.condT (by kernel_rfl) (.skip (.thenN (.seq (.block (.sr 3 [(5, qp 1000001 4), (13, qp 1000001 4), (12, qp 1000000 0)] [] (.st 1 [(15, .one (.fn 64 [.ptr 1000003 0, .ptr 1000004 0]))] [] (.bind (og := F64s0 n a1 a2) ⟨some 16, POp.gcallv false false [300000, 300001, 300002, 300003, 300004, 300005, 300006, 300007, 1000003, 1000004] [] (Operand.tmp 15) [], none, []⟩ (fun r1 => [(16, .tup [qj r1.1, qj r1.2.1])]) (fun r1 => [(1000003, some (.cells [ls a1])), (1000004, some (.cells [lj r1.2.2]))]) (by kernel_rfl) (fun r1 hr => pOp_eff (by kernel_rfl) (by kernel_rfl) (eff_gcallv (ks := [1000003, 1000004]) (rks := []) (new := []) (ARGS := [qp 1000003 0, qp 1000004 0]) (args1 := [qp 1000003 0, qp 1000004 0]) (args2 := [qp 1000000 0, qp 1000001 0]) (os := [.cells [ls a1], .cells [lj a2]]) (os' := [.cells [ls a1], .cells [lj r1.2.2]]) (os1 := [.cells [ls a1], .cells [lj r1.2.2]]) (res := .tup [qj r1.1, qj r1.2.1]) (res1 := .tup [qj r1.1, qj r1.2.1]) (r := .tup [qj r1.1, qj r1.2.1]) (N := [(1000003, some (.cells [ls a1])), (1000004, some (.cells [lj r1.2.2]))]) (caps := [.ptr 1000003 0, .ptr 1000004 0]) (by kernel_rfl) (by kernel_rfl) (readA_ow (readA_keep (by kernel_rfl) (readA_keep (by kernel_rfl) (readA_nil)))) (by kernel_rfl) (by kernel_rfl) (by kernel_rfl) (by kernel_rfl) (F64s0_ok n a1 a2 r1 hr) (by kernel_rfl) (by kernel_rfl) (by kernel_rfl) rfl (by kernel_rfl) (by kernel_rfl) (by kernel_rfl))) (fun r1 => ?_)))))))))))))))))))
  refine SimI.rd 5 [(7, qj r1.2.1), (6, qj r1.1), (18, qj r1.2.1), (17, qj r1.1), (14, .tup [qj r1.1, qj r1.2.1])] [] (.thenN (.seq (.sr 2 [(20, qb (r1.2.1 != 0)), (19, qj r1.2.1)] [] (.cond (r1.2.1 != 0) (by kernel_rfl) ?_ ?_))))
  · exact Sim.sr 2 [(3, qj r1.2.1), (21, qj r1.2.1)] [] (.ret (.thenR (.blockR (.thenR (.loopR (.blockR (.thenR .fn)))))))
  · refine Sim.skip (.thenN (.region0 (.rd 6 [(26, qp 1000001 4), (25, qj (imin (imax r1.1 (-1000001)) 1000001)), (24, qj (imax r1.1 (-1000001))), (23, qj r1.1), (22, qp 1000001 4)] [(1000001, some (.cells [lj a0.Kind, lj a0.ID, lj a0.Which, lj a0.To, lj (imin (imax r1.1 (-1000001)) 1000001), lj a0.At.Y, lj a0.F.a0.N, ls a0.F.a0.Text, lj a0.F.a1.N, ls a0.F.a1.Text, lj a0.F.a2.N, ls a0.F.a2.Text, lj a0.F.a3.N, ls a0.F.a3.Text, lj a0.Value.N, ls a0.Value.Text, lj a0.Client, lj a0.Session, lj a0.Rect.X0, lj a0.Rect.Y0, lj a0.Rect.X1, lj a0.Rect.Y1]))] (.blockN (.thenN (.region0 (.rd 2 [(10, qj 1), (27, qj 1)] [] (.loopN (.succ (.seq (.rg [(1, qp 1000002 0), (8, .one (.csl 1000000 1 0 2)), (9, qj 2), (10, qj 1)] [(1000000, some (.cells [.ptr 1000001 4, .ptr 1000001 5])), (1000001, some (.cells [lj a0.Kind, lj a0.ID, lj a0.Which, lj a0.To, lj (imin (imax r1.1 (-1000001)) 1000001), lj a0.At.Y, lj a0.F.a0.N, ls a0.F.a0.Text, lj a0.F.a1.N, ls a0.F.a1.Text, lj a0.F.a2.N, ls a0.F.a2.Text, lj a0.F.a3.N, ls a0.F.a3.Text, lj a0.Value.N, ls a0.Value.Text, lj a0.Client, lj a0.Session, lj a0.Rect.X0, lj a0.Rect.Y0, lj a0.Rect.X1, lj a0.Rect.Y1])), (1000002, some (.cells [.fn 64 [.ptr 1000003 0, .ptr 1000004 0]])), (1000003, some (.cells [ls a1])), (1000004, some (.cells [lj r1.2.2]))] (.rd 1 [(11, qb true)] [] (.thenN (.seq (.condT (by kernel_rfl) (.skip (.thenN (.seq (.block (.sr 3 [(5, qp 1000001 5), (13, qp 1000001 5), (12, qp 1000000 1)] [] (.st 1 [(15, .one (.fn 64 [.ptr 1000003 0, .ptr 1000004 0]))] [] (.bind (og := F64s0 n a1 r1.2.2) ⟨some 16, POp.gcallv false false [300000, 300001, 300002, 300003, 300004, 300005, 300006, 300007, 1000003, 1000004] [] (Operand.tmp 15) [], none, []⟩ (fun r2 => [(16, .tup [qj r2.1, qj r2.2.1])]) (fun r2 => [(1000003, some (.cells [ls a1])), (1000004, some (.cells [lj r2.2.2]))]) (by kernel_rfl) (fun r2 hr => pOp_eff (by kernel_rfl) (by kernel_rfl) (eff_gcallv (ks := [1000003, 1000004]) (rks := []) (new := []) (ARGS := [qp 1000003 0, qp 1000004 0]) (args1 := [qp 1000003 0, qp 1000004 0]) (args2 := [qp 1000000 0, qp 1000001 0]) (os := [.cells [ls a1], .cells [lj r1.2.2]]) (os' := [.cells [ls a1], .cells [lj r2.2.2]]) (os1 := [.cells [ls a1], .cells [lj r2.2.2]]) (res := .tup [qj r2.1, qj r2.2.1]) (res1 := .tup [qj r2.1, qj r2.2.1]) (r := .tup [qj r2.1, qj r2.2.1]) (N := [(1000003, some (.cells [ls a1])), (1000004, some (.cells [lj r2.2.2]))]) (caps := [.ptr 1000003 0, .ptr 1000004 0]) (by kernel_rfl) (by kernel_rfl) (readA_ow (readA_keep (by kernel_rfl) (readA_keep (by kernel_rfl) (readA_nil)))) (by kernel_rfl) (by kernel_rfl) (by kernel_rfl) (by kernel_rfl) (F64s0_ok n a1 r1.2.2 r2 hr) (by kernel_rfl) (by kernel_rfl) (by kernel_rfl) rfl (by kernel_rfl) (by kernel_rfl) (by kernel_rfl))) (fun r2 => ?_)))))))))))))))))))))))
    refine SimI.rd 5 [(7, qj r2.2.1), (6, qj r2.1), (18, qj r2.2.1), (17, qj r2.1), (14, .tup [qj r2.1, qj r2.2.1])] [] (.thenN (.seq (.sr 2 [(20, qb (r2.2.1 != 0)), (19, qj r2.2.1)] [] (.cond (r2.2.1 != 0) (by kernel_rfl) ?_ ?_))))
    · exact Sim.sr 2 [(3, qj r2.2.1), (21, qj r2.2.1)] [] (.ret (.thenR (.blockR (.thenR (.loopR (.blockR (.thenR .fn)))))))
    · exact Sim.skip (.thenN (.region0 (.rd 6 [(26, qp 1000001 5), (25, qj (imin (imax r2.1 (-1000001)) 1000001)), (24, qj (imax r2.1 (-1000001))), (23, qj r2.1), (22, qp 1000001 5)] [(1000001, some (.cells [lj a0.Kind, lj a0.ID, lj a0.Which, lj a0.To, lj (imin (imax r1.1 (-1000001)) 1000001), lj (imin (imax r2.1 (-1000001)) 1000001), lj a0.F.a0.N, ls a0.F.a0.Text, lj a0.F.a1.N, ls a0.F.a1.Text, lj a0.F.a2.N, ls a0.F.a2.Text, lj a0.F.a3.N, ls a0.F.a3.Text, lj a0.Value.N, ls a0.Value.Text, lj a0.Client, lj a0.Session, lj a0.Rect.X0, lj a0.Rect.Y0, lj a0.Rect.X1, lj a0.Rect.Y1]))] (.blockN (.thenN (.region0 (.rd 2 [(10, qj 2), (27, qj 2)] [] (.loopN (.succ (.seq (.rg [(1, qp 1000002 0), (8, .one (.csl 1000000 1 0 2)), (9, qj 2), (10, qj 2)] [(1000000, some (.cells [.ptr 1000001 4, .ptr 1000001 5])), (1000001, some (.cells [lj a0.Kind, lj a0.ID, lj a0.Which, lj a0.To, lj (imin (imax r1.1 (-1000001)) 1000001), lj (imin (imax r2.1 (-1000001)) 1000001), lj a0.F.a0.N, ls a0.F.a0.Text, lj a0.F.a1.N, ls a0.F.a1.Text, lj a0.F.a2.N, ls a0.F.a2.Text, lj a0.F.a3.N, ls a0.F.a3.Text, lj a0.Value.N, ls a0.Value.Text, lj a0.Client, lj a0.Session, lj a0.Rect.X0, lj a0.Rect.Y0, lj a0.Rect.X1, lj a0.Rect.Y1])), (1000002, some (.cells [.fn 64 [.ptr 1000003 0, .ptr 1000004 0]])), (1000003, some (.cells [ls a1])), (1000004, some (.cells [lj r2.2.2]))] (.rd 1 [(11, qb false)] [] (.thenN (.seq (.condF (by kernel_rfl) (.exit (.thenX (.loopX (.blockX (.thenN (.sr 1 [(3, qj 0)] [] (.ret .fn))))))))))))))))))))))

def F66s7_e (a0 : ByteArray) (a1 : Int) : Unit → PV × List Ob := fun r => (.one (li .i64 0), [.cells [.fn 64 [.ptr 1000001 0, .ptr 1000002 0]], .cells [ls a0], .cells [li .i64 a1]])
def F66s7_l1 (n : Nat) : Nat → Option Unit
  | 0 => none
  | m + 1 =>
    some ()
theorem F66s7_l1_ok (n : Nat) (a0 : ByteArray) (a1 : Int) : ∀ (m : Nat), SimL Try.prog D (n + 8) m p66c24 [(1, qp 1000000 0), (8, .one (.view 1 0 fun _ => [])), (9, qj 0), (10, qj 0)] [(1000000, some (.cells [.fn 64 [.ptr 1000001 0, .ptr 1000002 0]])), (1000001, some (.cells [ls a0])), (1000002, some (.cells [lj a1]))] (F66s7_l1 n m) (QB 0 (QT Try.prog D (n + 8) p66c30 (QF false pc66_r 3 (F66s7_e a0 a1)))) := by
  intro m_l1
  induction m_l1 with
  | zero => exact SimL.zero' rfl
  | succ m_l1 ih_l1 =>
    refine SimL.succ ?_
    unfold F66s7_l1
    exact Sim.seq (.rg [(1, qp 1000000 0), (8, .one (.view 1 0 fun _ => [])), (9, qj 0), (10, qj 0)] [(1000000, some (.cells [.fn 64 [.ptr 1000001 0, .ptr 1000002 0]])), (1000001, some (.cells [ls a0])), (1000002, some (.cells [lj a1]))] (.rd 1 [(11, qb false)] [] (.thenN (.seq (.condF (by kernel_rfl) (.exit (.thenX (.loopX (.blockX (.thenN (.sr 1 [(3, qj 0)] [] (.ret .fn))))))))))))

def F66s7 (n : Nat) (a0 : ByteArray) (a1 : Int) : Option Unit :=
  F66s7_l1 n (n + 8)
theorem F66s7_ok (n : Nat) (a0 : ByteArray) (a1 : Int) : ∀ r, F66s7 n a0 a1 = some r → D 66 [.one (.view 1 0 fun _ => []), .one (.ptr 1000000 0)] [.cells [.fn 64 [.ptr 1000001 0, .ptr 1000002 0]], .cells [ls a0], .cells [li .i64 a1]] = some ((F66s7_e a0 a1) r) := by
  refine fn_to (D := D) (n := n + 8) (nt := 28) (rs := pc66_r) (c := p66c32) (L := [(0, .one (.view 1 0 fun _ => [])), (1, qp 1000000 0)]) (M := [(1000000, some (.cells [.fn 64 [.ptr 1000001 0, .ptr 1000002 0]])), (1000001, some (.cells [ls a0])), (1000002, some (.cells [lj a1]))]) (k := 3) rfl rfl rfl rfl rfl rfl rfl ?_
  unfold F66s7
  refine Sim.sr 1 [(3, qj 0)] [] (.seq (.sr 3 [(10, qj 0), (9, qj 0), (8, .one (.view 1 0 fun _ => []))] [] (.block (.loop (.pr [1, 8, 9, 10] [1000000, 1000001, 1000002, 1000003, 1000004] [] [(1, qp 1000000 0), (8, .one (.view 1 0 fun _ => [])), (9, qj 0), (10, qj 0)] [(1000000, some (.cells [.fn 64 [.ptr 1000001 0, .ptr 1000002 0]])), (1000001, some (.cells [ls a0])), (1000002, some (.cells [lj a1]))] ?_)))))
  exact F66s7_l1_ok n a0 a1 (n + 8)


-- 67: vedette/num.Texts
def F67_e : (ByteArray × Int × Int) → PV × List Ob := fun r => (.tup [.one (ls r.1), .one (li .i64 r.2.1), .one (li .i64 r.2.2)], [])
def F67 (n : Nat) (a0 : ByteArray) (a1 : Int) : Option (ByteArray × Int × Int) :=
  (F70 n a0).bind fun (r1 : (Int × Int × Int)) =>
  if r1.2.2 != 0 then
    some (ByteArray.empty, 0, r1.2.2)
  else
    if decide (IntKind.wrap .u64 (imax a1 0) < r1.1) then
      some (ByteArray.empty, 0, 13)
    else
      if decide (IntKind.wrap .u64 (IntKind.wrap .i64 ((a0.size : Int) - r1.2.1)) < r1.1) then
        some (ByteArray.empty, 0, 10)
      else
        if 0 ≤ (r1.2.1 : Int) ∧ (r1.2.1 : Int) ≤ IntKind.wrap .i64 (r1.2.1 + IntKind.wrap .i64 r1.1) ∧ IntKind.wrap .i64 (r1.2.1 + IntKind.wrap .i64 r1.1) ≤ (a0.size : Int) then
          some (a0.extract r1.2.1.toNat (IntKind.wrap .i64 (r1.2.1 + IntKind.wrap .i64 r1.1)).toNat, IntKind.wrap .i64 (r1.2.1 + IntKind.wrap .i64 r1.1), 0)
        else none
theorem F67_ok (n : Nat) (a0 : ByteArray) (a1 : Int) : ∀ r, F67 n a0 a1 = some r → D 67 [.one (ls a0), .one (li .i64 a1)] [] = some (F67_e r) := by
  refine fn_to (D := D) (n := n + 8) (nt := 44) (rs := pc67_r) (c := p67c30) (L := [(0, qs a0), (1, qj a1)]) (M := []) (k := 0) rfl rfl rfl rfl rfl rfl rfl ?_
  unfold F67
  refine Sim.sr 3 [(6, qj 0), (5, qj 0), (4, qs be)] [] (.st 1 [(12, qs a0)] [] (.cl 13 true [[]] 70 [12] none (fun r1 => .tup [.one (li .u64 r1.1), qj r1.2.1, qj r1.2.2]) [qs a0] (F70_ok n a0) (fun r1 => ?_)))
  refine SimI.rd 7 [(9, qj r1.2.2), (8, qj r1.2.1), (7, .one (li .u64 r1.1)), (16, qj r1.2.2), (15, qj r1.2.1), (14, .one (li .u64 r1.1)), (11, .tup [.one (li .u64 r1.1), qj r1.2.1, qj r1.2.2])] [] (.thenN (.seq (.block (.sr 3 [(17, qb (r1.2.2 != 0)), (19, qb (r1.2.2 != 0)), (18, qj r1.2.2)] [] (.cond (r1.2.2 != 0) (by kernel_rfl) ?_ ?_)))))
  · exact Sim.sr 4 [(6, qj r1.2.2), (5, qj 0), (4, qs be), (20, qj r1.2.2)] [] (.ret (.blockR (.thenR .fn)))
  · refine Sim.sr 6 [(21, qb (decide (iw .u64 (imax a1 0) < r1.1))), (26, qb (decide (iw .u64 (imax a1 0) < r1.1))), (25, .one (li .u64 (iw .u64 (imax a1 0)))), (24, qj (imax a1 0)), (23, qj a1), (22, .one (li .u64 r1.1))] [] (.cond (decide (iw .u64 (imax a1 0) < r1.1)) (by kernel_rfl) ?_ ?_)
    · exact Sim.sr 3 [(6, qj 13), (5, qj 0), (4, qs be)] [] (.ret (.blockR (.thenR .fn)))
    · refine Sim.sr 8 [(27, qb (decide (iw .u64 (iw .i64 ((a0.size : Int) - r1.2.1)) < r1.1))), (34, qb (decide (iw .u64 (iw .i64 ((a0.size : Int) - r1.2.1)) < r1.1))), (33, .one (li .u64 (iw .u64 (iw .i64 ((a0.size : Int) - r1.2.1))))), (32, qj (iw .i64 ((a0.size : Int) - r1.2.1))), (31, qj r1.2.1), (30, qj (a0.size : Int)), (29, qs a0), (28, .one (li .u64 r1.1))] [] (.cond (decide (iw .u64 (iw .i64 ((a0.size : Int) - r1.2.1)) < r1.1)) (by kernel_rfl) ?_ ?_)
      · exact Sim.sr 3 [(6, qj 10), (5, qj 0), (4, qs be)] [] (.ret (.blockR (.thenR .fn)))
      · exact Sim.skip (.blockN (.thenN (.sr 5 [(10, qj (iw .i64 (r1.2.1 + IntKind.wrap .i64 r1.1))), (38, qj (iw .i64 (r1.2.1 + IntKind.wrap .i64 r1.1))), (37, qj (iw .i64 r1.1)), (36, .one (li .u64 r1.1)), (35, qj r1.2.1)] [] (.st 3 [(41, qj (iw .i64 (r1.2.1 + IntKind.wrap .i64 r1.1))), (40, qj r1.2.1), (39, qs a0)] [] (.guard (c := 0 ≤ (r1.2.1 : Int) ∧ (r1.2.1 : Int) ≤ IntKind.wrap .i64 (r1.2.1 + IntKind.wrap .i64 r1.1) ∧ IntKind.wrap .i64 (r1.2.1 + IntKind.wrap .i64 r1.1) ≤ (a0.size : Int)) ⟨some 42, POp.prim (Prim.slice 9 true true) [39, 40, 41], none, []⟩ [(42, qs (a0.extract r1.2.1.toNat (iw .i64 (r1.2.1 + IntKind.wrap .i64 r1.1)).toNat))] [] (by kernel_rfl) (fun hc => pOp_eff (by kernel_rfl) (by kernel_rfl) (eff_prim (by kernel_rfl) (pr_cutS (s := a0) (k := .i64) (l := .i64) (a := r1.2.1) (b := IntKind.wrap .i64 (r1.2.1 + IntKind.wrap .i64 r1.1)) Try.underlying9 hc))) (.rd 4 [(6, qj 0), (5, qj (iw .i64 (r1.2.1 + IntKind.wrap .i64 r1.1))), (4, qs (a0.extract r1.2.1.toNat (iw .i64 (r1.2.1 + IntKind.wrap .i64 r1.1)).toNat)), (43, qj (iw .i64 (r1.2.1 + IntKind.wrap .i64 r1.1)))] [] (.thenN (.ret .fn))))))))


end Go.Proofs.Ythmbegagkgdopaa
