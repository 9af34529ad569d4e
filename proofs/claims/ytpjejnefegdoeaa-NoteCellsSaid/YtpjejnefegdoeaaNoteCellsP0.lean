/-
  Functions of the program as functions of Lean. No condition.
-/
import Derived.Test.YtpjejnefegdoeaaNoteCellsE
namespace Go.Proofs.Ytpjejnefegdoeaa
open Go Go.Rx
set_option maxRecDepth 100000
set_option linter.unusedVariables false
set_option linter.unusedSimpArgs false
set_option linter.unnecessarySimpa false
-- 60: vedette/fields.IsField
def F60_e : Bool → PV × List Ob := fun r => (.one (lb r), [])
def F60 (n : Nat) (a0 : Field) : Option Bool :=
  if a0.N == 0 then
    some (decide ((a0.Text.size : Int) ≤ 12))
  else
    if a0.Text.toList == ByteArray.empty.toList then
      some (decide ((a0.Text.size : Int) ≤ 12))
    else
      some false
theorem F60_ok (n : Nat) (a0 : Field) : ∀ r, F60 n a0 = some r → D 60 [.agg [li .i64 a0.N, ls a0.Text]] [] = some (F60_e r) := by
  refine fn_to (D := D) (n := n + 8) (nt := 17) (rs := pc60_r) (c := p60c5) (L := [(0, .agg [lj a0.N, ls a0.Text])]) (M := []) (k := 0) rfl rfl rfl rfl rfl rfl rfl ?_
  unfold F60
  refine Sim.sr 2 [(2, qb false), (1, qp 1 0)] [(1, some (.cells [lj a0.N, ls a0.Text]))] (.st 4 [(6, qb (a0.N == 0)), (5, qb (a0.N == 0)), (4, qj a0.N), (3, qp 1 0)] [] (.split 6 (a0.N == 0) (by kernel_rfl) ?_ ?_))
  · exact SimI.rd 11 [(2, qb (decide ((a0.Text.size : Int) ≤ 12))), (16, qb (decide ((a0.Text.size : Int) ≤ 12))), (15, qb (decide ((a0.Text.size : Int) ≤ 12))), (14, qj (a0.Text.size : Int)), (13, qs a0.Text), (12, qp 1 1), (11, qb true), (10, qb true), (9, tz), (8, tz), (7, tz)] [] (.thenN (.ret .fn))
  · refine SimI.rn 5 (w8 a0) [] (.split 11 (a0.Text.toList == be.toList) (by kernel_rfl) ?_ ?_)
    · exact SimI.rd 6 (w9 a0) [] (.thenN (.ret .fn))
    · exact SimI.rd 6 [(2, qb false), (16, qb false), (15, tz), (14, tz), (13, tz), (12, tz)] [] (.thenN (.ret .fn))


-- 61: vedette/cmd.core
def F61_e : Command → PV × List Ob := fun r => (.agg (Command.cells r), [])
def F61 (n : Nat) (a0 : Command) : Option Command :=
  if a0.Kind == 1 then
    some (Command.mk a0.Kind 0 0 0 a0.At a0.F (Field.mk 0 ByteArray.empty) a0.Client a0.Session (Rect.mk 0 0 0 0))
  else
    if a0.Kind == 2 then
      some (Command.mk a0.Kind a0.ID 0 0 a0.At (A4.mk (Field.mk 0 ByteArray.empty) (Field.mk 0 ByteArray.empty) (Field.mk 0 ByteArray.empty) (Field.mk 0 ByteArray.empty)) (Field.mk 0 ByteArray.empty) a0.Client a0.Session (Rect.mk 0 0 0 0))
    else
      if a0.Kind == 3 then
        some (Command.mk a0.Kind a0.ID a0.Which 0 (Point.mk 0 0) (A4.mk (Field.mk 0 ByteArray.empty) (Field.mk 0 ByteArray.empty) (Field.mk 0 ByteArray.empty) (Field.mk 0 ByteArray.empty)) a0.Value a0.Client a0.Session (Rect.mk 0 0 0 0))
      else
        if a0.Kind == 4 then
          some (Command.mk a0.Kind a0.ID 0 0 (Point.mk 0 0) (A4.mk (Field.mk 0 ByteArray.empty) (Field.mk 0 ByteArray.empty) (Field.mk 0 ByteArray.empty) (Field.mk 0 ByteArray.empty)) (Field.mk 0 ByteArray.empty) a0.Client a0.Session (Rect.mk 0 0 0 0))
        else
          if a0.Kind == 5 then
            some (Command.mk a0.Kind 0 a0.Which a0.To (Point.mk 0 0) (A4.mk (Field.mk 0 ByteArray.empty) (Field.mk 0 ByteArray.empty) (Field.mk 0 ByteArray.empty) (Field.mk 0 ByteArray.empty)) (Field.mk 0 ByteArray.empty) a0.Client a0.Session (Rect.mk 0 0 0 0))
          else
            if a0.Kind == 6 then
              if a0.Kind == 6 then
                some (Command.mk a0.Kind 0 0 0 (Point.mk 0 0) (A4.mk (Field.mk 0 ByteArray.empty) (Field.mk 0 ByteArray.empty) (Field.mk 0 ByteArray.empty) (Field.mk 0 ByteArray.empty)) (Field.mk 0 ByteArray.empty) a0.Client a0.Session a0.Rect)
              else
                some (Command.mk a0.Kind 0 0 0 (Point.mk 0 0) (A4.mk (Field.mk 0 ByteArray.empty) (Field.mk 0 ByteArray.empty) (Field.mk 0 ByteArray.empty) (Field.mk 0 ByteArray.empty)) (Field.mk 0 ByteArray.empty) a0.Client a0.Session (Rect.mk 0 0 0 0))
            else
              if a0.Kind == 7 then
                some (Command.mk a0.Kind 0 0 0 (Point.mk 0 0) (A4.mk (Field.mk 0 ByteArray.empty) (Field.mk 0 ByteArray.empty) (Field.mk 0 ByteArray.empty) (Field.mk 0 ByteArray.empty)) (Field.mk 0 ByteArray.empty) a0.Client a0.Session a0.Rect)
              else
                some (Command.mk a0.Kind 0 0 0 (Point.mk 0 0) (A4.mk (Field.mk 0 ByteArray.empty) (Field.mk 0 ByteArray.empty) (Field.mk 0 ByteArray.empty) (Field.mk 0 ByteArray.empty)) (Field.mk 0 ByteArray.empty) a0.Client a0.Session (Rect.mk 0 0 0 0))
theorem F61_ok (n : Nat) (a0 : Command) : ∀ r, F61 n a0 = some r → D 61 [.agg (Command.cells a0)] [] = some (F61_e r) := by
  refine fn_to (D := D) (n := n + 8) (nt := 60) (rs := pc61_r) (c := p61c40) (L := [(0, .agg (Command.cells a0))]) (M := []) (k := 0) rfl rfl rfl rfl rfl rfl rfl ?_
  unfold F61
  refine Sim.sr 2 [(2, qp 2 0), (1, qp 1 0)] [(2, some (.cells [lj 0, lj 0, lj 0, lj 0, lj 0, lj 0, lj 0, ls be, lj 0, ls be, lj 0, ls be, lj 0, ls be, lj 0, ls be, lj 0, lj 0, lj 0, lj 0, lj 0, lj 0])), (1, some (.cells (Command.cells a0)))] (.sr 9 [(3, qp 3 0), (10, .agg (w1 a0)), (9, qj a0.Session), (8, qp 1 17), (7, qj a0.Client), (6, qp 1 16), (5, qj a0.Kind), (4, qp 1 0)] [(3, some (.cells (w1 a0))), (3, some (.cells [lj 0, lj 0, lj 0, lj 0, lj 0, lj 0, lj 0, ls be, lj 0, ls be, lj 0, ls be, lj 0, ls be, lj 0, ls be, lj 0, lj 0, lj 0, lj 0, lj 0, lj 0]))] (.seq (.sr 2 [(12, qj a0.Kind), (11, qp 1 0)] [] (.block (.sr 2 [(13, qb (a0.Kind == 1)), (14, qb (a0.Kind == 1))] [] (.cond (a0.Kind == 1) (by kernel_rfl) ?_ ?_))))))
  · exact Sim.region0 (.rd 8 [(20, qp 3 6), (19, qp 3 4), (18, .agg (A4_Field.cells a0.F)), (17, qp 1 6), (16, .agg [lj a0.At.X, lj a0.At.Y]), (15, qp 1 4)] [(3, some (.cells [lj a0.Kind, lj 0, lj 0, lj 0, lj a0.At.X, lj a0.At.Y, lj a0.F.a0.N, ls a0.F.a0.Text, lj a0.F.a1.N, ls a0.F.a1.Text, lj a0.F.a2.N, ls a0.F.a2.Text, lj a0.F.a3.N, ls a0.F.a3.Text, lj 0, ls be, lj a0.Client, lj a0.Session, lj 0, lj 0, lj 0, lj 0])), (3, some (.cells (w10 a0)))] (.blockN (.thenN (.sr 2 [(59, .agg [lj a0.Kind, lj 0, lj 0, lj 0, lj a0.At.X, lj a0.At.Y, lj a0.F.a0.N, ls a0.F.a0.Text, lj a0.F.a1.N, ls a0.F.a1.Text, lj a0.F.a2.N, ls a0.F.a2.Text, lj a0.F.a3.N, ls a0.F.a3.Text, lj 0, ls be, lj a0.Client, lj a0.Session, lj 0, lj 0, lj 0, lj 0])] [(2, some (.cells [lj a0.Kind, lj 0, lj 0, lj 0, lj a0.At.X, lj a0.At.Y, lj a0.F.a0.N, ls a0.F.a0.Text, lj a0.F.a1.N, ls a0.F.a1.Text, lj a0.F.a2.N, ls a0.F.a2.Text, lj a0.F.a3.N, ls a0.F.a3.Text, lj 0, ls be, lj a0.Client, lj a0.Session, lj 0, lj 0, lj 0, lj 0]))] (.ret .fn)))))
  · refine Sim.sr 2 [(21, qb (a0.Kind == 2)), (22, qb (a0.Kind == 2))] [] (.cond (a0.Kind == 2) (by kernel_rfl) ?_ ?_)
    · exact Sim.region0 (.rd 8 [(28, qp 3 4), (27, qp 3 1), (26, .agg [lj a0.At.X, lj a0.At.Y]), (25, qp 1 4), (24, qj a0.ID), (23, qp 1 1)] [(3, some (.cells (w4 a0))), (3, some (.cells (w3 a0)))] (.blockN (.thenN (.sr 2 [(59, .agg (w4 a0))] [(2, some (.cells (w4 a0)))] (.ret .fn)))))
    · refine Sim.sr 2 [(29, qb (a0.Kind == 3)), (30, qb (a0.Kind == 3))] [] (.cond (a0.Kind == 3) (by kernel_rfl) ?_ ?_)
      · exact Sim.region0 (.rd 12 [(39, qp 3 14), (38, qp 3 2), (37, qp 3 1), (36, .agg [lj a0.Value.N, ls a0.Value.Text]), (35, qp 1 14), (34, qj a0.Which), (33, qp 1 2), (32, qj a0.ID), (31, qp 1 1)] [(3, some (.cells (w5 a0))), (3, some (.cells (w11 a0))), (3, some (.cells (w3 a0)))] (.blockN (.thenN (.sr 2 [(59, .agg (w5 a0))] [(2, some (.cells (w5 a0)))] (.ret .fn)))))
      · refine Sim.sr 2 [(40, qb (a0.Kind == 4)), (41, qb (a0.Kind == 4))] [] (.cond (a0.Kind == 4) (by kernel_rfl) ?_ ?_)
        · exact Sim.region0 (.rd 4 [(44, qp 3 1), (43, qj a0.ID), (42, qp 1 1)] [(3, some (.cells (w3 a0)))] (.blockN (.thenN (.sr 2 [(59, .agg (w3 a0))] [(2, some (.cells (w3 a0)))] (.ret .fn)))))
        · refine Sim.sr 2 [(45, qb (a0.Kind == 5)), (46, qb (a0.Kind == 5))] [] (.cond (a0.Kind == 5) (by kernel_rfl) ?_ ?_)
          · exact Sim.region0 (.rd 8 (w12 a0) [(3, some (.cells (w6 a0))), (3, some (.cells (w13 a0)))] (.blockN (.thenN (.sr 2 [(59, .agg (w6 a0))] [(2, some (.cells (w6 a0)))] (.ret .fn)))))
          · refine Sim.seq (.sr 2 [(53, qb (a0.Kind == 6)), (54, qb (a0.Kind == 6))] [] (.cond (a0.Kind == 6) (by kernel_rfl) ?_ ?_))
            · refine Sim.skip (.thenN (.cond (a0.Kind == 6) (by kernel_rfl) ?_ ?_))
              · exact Sim.region0 (.rd 4 (w7 a0) [(3, some (.cells (w2 a0)))] (.blockN (.thenN (.sr 2 [(59, .agg (w2 a0))] [(2, some (.cells (w2 a0)))] (.ret .fn)))))
              · exact Sim.skip (.blockN (.thenN (.sr 2 [(59, .agg (w1 a0))] [(2, some (.cells (w1 a0)))] (.ret .fn))))
            · refine Sim.region0 (.rd 2 [(53, qb (a0.Kind == 7)), (55, qb (a0.Kind == 7))] [] (.thenN (.cond (a0.Kind == 7) (by kernel_rfl) ?_ ?_)))
              · exact Sim.region0 (.rd 4 (w7 a0) [(3, some (.cells (w2 a0)))] (.blockN (.thenN (.sr 2 [(59, .agg (w2 a0))] [(2, some (.cells (w2 a0)))] (.ret .fn)))))
              · exact Sim.skip (.blockN (.thenN (.sr 2 [(59, .agg (w1 a0))] [(2, some (.cells (w1 a0)))] (.ret .fn))))


-- 62: vedette/cmd.near
def F62_e : Bool → PV × List Ob := fun r => (.one (lb r), [])
def F62_l4 (n : Nat) (a0 : (List Int)) : Nat → Int → Option Bool
  | 0, _ => none
  | m + 1, i3 =>
    if decide (i3 < ((a0).length : Int)) then
      (ix a0 i3).bind fun (x5 : Int) =>
      if decide (((-1000) : Int) ≤ x5) then
        if decide (x5 ≤ 1000) then
          (F62_l4 n a0 m) (IntKind.wrap .i64 (i3 + 1))
        else
          some false
      else
        some false
    else
      some true
theorem F62_l4_ok (n : Nat) (a0 : (List Int)) : ∀ (m : Nat) (i3 : Int), SimL Try.prog D (n + 8) m p62c23 [(5, .one (vw (codI .i64) a0)), (6, qj ((a0).length : Int)), (7, qj i3)] [] (F62_l4 n a0 m i3) (QB 0 (QT Try.prog D (n + 8) p62c29 (QF false pc62_r 0 F62_e))) := by
  intro m_l4
  induction m_l4 with
  | zero => intro i3; exact SimL.zero'  rfl
  | succ m_l4 ih_l4 =>
    intro i3
    refine SimL.succ ?_
    unfold F62_l4
    refine Sim.seq (.rg [(5, .one (vw (codI .i64) a0)), (6, qj ((a0).length : Int)), (7, qj i3)] [] (.rd 1 [(8, qb (decide (i3 < ((a0).length : Int))))] [] (.thenN (.seq (.cond (decide (i3 < ((a0).length : Int))) (by kernel_rfl) ?_ ?_)))))
    · refine Sim.skip (.thenN (.seq (.block (.seq (.region0 (.bind (og := ix a0 i3) ⟨some 9, POp.iaddrS 1 (Operand.tmp 5) (Operand.tmp 7), none, []⟩ (fun x5 => [(9, .one (.eptr ((codI .i64).enc x5) 0))]) (fun x5 => []) (by kernel_rfl) (fun x5 hr => pOp_eff (by kernel_rfl) (by kernel_rfl) (eff_idx (c := (codI .i64)) (l := a0) (k := .i64) (n := i3) (by kernel_rfl) (by kernel_rfl) (by kernel_rfl) hr)) (fun x5 => ?_)))))))
      refine SimI.rd 2 [(4, qj x5), (10, qj x5)] [] (.thenN (.seq (.st 3 [(13, qb (decide (((-1000) : Int) ≤ x5))), (12, qb (decide (((-1000) : Int) ≤ x5))), (11, qj x5)] [] (.split 13 (decide (((-1000) : Int) ≤ x5)) (by kernel_rfl) ?_ ?_))))
      · refine SimI.rd 3 [(16, qb (decide (x5 ≤ 1000))), (15, qb (decide (x5 ≤ 1000))), (14, qj x5)] [] (.thenN (.cond (decide (x5 ≤ 1000)) (by kernel_rfl) ?_ ?_))
        · refine Sim.exit (.thenX (.blockX (.thenN (.region0 (.rd 2 [(7, qj (iw .i64 (i3 + 1))), (17, qj (iw .i64 (i3 + 1)))] [] (.loopN (.pr [5, 6, 7] [] [] [(5, .one (vw (codI .i64) a0)), (6, qj ((a0).length : Int)), (7, qj (iw .i64 (i3 + 1)))] [] ?_)))))))
          exact ih_l4 (iw .i64 (i3 + 1))
        · exact Sim.skip (.thenN (.sr 1 [(2, qb false)] [] (.ret (.blockR (.thenR (.loopR (.blockR (.thenR .fn))))))))
      · exact SimI.rd 3 [(16, qb false), (15, tz), (14, tz)] [] (.thenN (.condF (by kernel_rfl) (.skip (.thenN (.sr 1 [(2, qb false)] [] (.ret (.blockR (.thenR (.loopR (.blockR (.thenR .fn)))))))))))
    · exact Sim.exit (.thenX (.loopX (.blockX (.thenN (.sr 1 [(2, qb true)] [] (.ret .fn))))))

def F62 (n : Nat) (a0 : (List Int)) : Option Bool :=
  F62_l4 n a0 (n + 8) 0
theorem F62_ok (n : Nat) (a0 : (List Int)) : ∀ r, F62 n a0 = some r → D 62 [.one (vw (codI .i64) a0)] [] = some (F62_e r) := by
  refine fn_to (D := D) (n := n + 8) (nt := 18) (rs := pc62_r) (c := p62c33) (L := [(0, .one (vw (codI .i64) a0))]) (M := []) (k := 0) rfl rfl rfl rfl rfl rfl rfl ?_
  unfold F62
  refine Sim.sr 1 [(2, qb false)] [] (.scope (.seq (.label (.thenN (.seq (.sr 3 [(7, qj 0), (6, qj ((a0).length : Int)), (5, .one (vw (codI .i64) a0))] [] (.block (.loop (.pr [5, 6, 7] [] [] [(5, .one (vw (codI .i64) a0)), (6, qj ((a0).length : Int)), (7, qj 0)] [] ?_)))))))))
  exact F62_l4_ok n a0 (n + 8) 0


-- 32: vedette/cmd.Is
def F32_e : Bool → PV × List Ob := fun r => (.one (lb r), [])
def F32_j12 (n : Nat) (a0 : Command) (b6 : Bool) (b8 : Bool) (b11 : Bool) : Option Bool :=
    if b6 then
      if b8 then
        if b11 then
          (F62 n [a0.At.X, a0.At.Y, a0.Rect.X0, a0.Rect.Y0, a0.Rect.X1, a0.Rect.Y1]).bind fun (r13 : Bool) =>
          some r13
        else
          some false
      else
        some false
    else
      some false
theorem F32_j12_ok (n : Nat) (a0 : Command) (b6 : Bool) (b8 : Bool) (b11 : Bool) : Sim Try.prog D (n + 8) p32c29 [(1, qp 1 0), (5, qb b6), (6, qb b8), (7, qb b11)] [(1, some (.cells (Command.cells a0)))] (F32_j12 n a0 b6 b8 b11) (QF false pc32_r 0 F32_e) := by
    unfold F32_j12
    refine Sim.seq (.rg [(1, qp 1 0), (5, qb b6), (6, qb b8), (7, qb b11)] [(1, some (.cells (Command.cells a0)))] (.rn 2 [(83, qb b6), (82, qb b6)] [] (.split 83 b6 (by kernel_rfl) ?_ ?_)))
    · refine SimI.rn 3 [(86, qb b8), (85, qb b8), (84, qb b8)] [] (.split 86 b8 (by kernel_rfl) ?_ ?_)
      · refine SimI.rn 3 [(89, qb b11), (88, qb b11), (87, qb b11)] [] (.split 89 b11 (by kernel_rfl) ?_ ?_)
        · refine SimI.rn 19 [(108, .one (vw (codI .i64) [a0.At.X, a0.At.Y, a0.Rect.X0, a0.Rect.Y0, a0.Rect.X1, a0.Rect.Y1])), (107, qj a0.Rect.Y1), (106, qp 1 21), (105, qp 1 18), (104, qj a0.Rect.X1), (103, qp 1 20), (102, qp 1 18), (101, qj a0.Rect.Y0), (100, qp 1 19), (99, qp 1 18), (98, qj a0.Rect.X0), (97, qp 1 18), (96, qp 1 18), (95, qj a0.At.Y), (94, qp 1 5), (93, qp 1 4), (92, qj a0.At.X), (91, qp 1 4), (90, qp 1 4)] [] (.cl 109 true [[(0, 1)]] 62 [108] (some (89, true)) (fun r13 => qb r13) [.one (vw (codI .i64) [a0.At.X, a0.At.Y, a0.Rect.X0, a0.Rect.Y0, a0.Rect.X1, a0.Rect.Y1])] (F62_ok n [a0.At.X, a0.At.Y, a0.Rect.X0, a0.Rect.Y0, a0.Rect.X1, a0.Rect.Y1]) (fun r13 => ?_))
          exact SimI.rd 2 [(2, qb r13), (110, qb r13)] [] (.thenN (.ret .fn))
        · exact SimI.rd 22 [(2, qb false), (110, qb false), (109, tz), (108, tz), (107, tz), (106, tz), (105, tz), (104, tz), (103, tz), (102, tz), (101, tz), (100, tz), (99, tz), (98, tz), (97, tz), (96, tz), (95, tz), (94, tz), (93, tz), (92, tz), (91, tz), (90, tz)] [] (.thenN (.ret .fn))
      · exact SimI.rd 25 [(2, qb false), (110, qb false), (109, tz), (108, tz), (107, tz), (106, tz), (105, tz), (104, tz), (103, tz), (102, tz), (101, tz), (100, tz), (99, tz), (98, tz), (97, tz), (96, tz), (95, tz), (94, tz), (93, tz), (92, tz), (91, tz), (90, tz), (89, qb false), (88, qb false), (87, tz)] [] (.thenN (.ret .fn))
    · exact SimI.rd 28 [(2, qb false), (110, qb false), (109, tz), (108, tz), (107, tz), (106, tz), (105, tz), (104, tz), (103, tz), (102, tz), (101, tz), (100, tz), (99, tz), (98, tz), (97, tz), (96, tz), (95, tz), (94, tz), (93, tz), (92, tz), (91, tz), (90, tz), (89, qb false), (88, qb false), (87, tz), (86, qb false), (85, qb false), (84, tz)] [] (.thenN (.ret .fn))

def F32_j9 (n : Nat) (a0 : Command) (b6 : Bool) (b8 : Bool) : Option Bool :=
    if decide ((0 : Int) ≤ a0.ID) then
      if decide (a0.ID ≤ 1000000) then
        if decide (((-1) : Int) ≤ a0.Which) then
          if decide (a0.Which ≤ 100) then
            if decide (((-1) : Int) ≤ a0.To) then
              if decide (a0.To ≤ 100) then
                (F60 n a0.Value).bind fun (r10 : Bool) =>
                F32_j12 n a0 b6 b8 r10
              else
                F32_j12 n a0 b6 b8 false
            else
              F32_j12 n a0 b6 b8 false
          else
            F32_j12 n a0 b6 b8 false
        else
          F32_j12 n a0 b6 b8 false
      else
        F32_j12 n a0 b6 b8 false
    else
      F32_j12 n a0 b6 b8 false
theorem F32_j9_ok (n : Nat) (a0 : Command) (b6 : Bool) (b8 : Bool) : Sim Try.prog D (n + 8) p32c30 [(1, qp 1 0), (5, qb b6), (6, qb b8)] [(1, some (.cells (Command.cells a0)))] (F32_j9 n a0 b6 b8) (QF false pc32_r 0 F32_e) := by
    unfold F32_j9
    refine Sim.seq (.rg [(1, qp 1 0), (5, qb b6), (6, qb b8)] [(1, some (.cells (Command.cells a0)))] (.rn 4 [(52, qb (decide ((0 : Int) ≤ a0.ID))), (51, qb (decide ((0 : Int) ≤ a0.ID))), (50, qj a0.ID), (49, qp 1 1)] [] (.split 52 (decide ((0 : Int) ≤ a0.ID)) (by kernel_rfl) ?_ ?_)))
    · refine SimI.rn 5 [(57, qb (decide (a0.ID ≤ 1000000))), (56, qb (decide (a0.ID ≤ 1000000))), (55, qb (decide (a0.ID ≤ 1000000))), (54, qj a0.ID), (53, qp 1 1)] [] (.split 57 (decide (a0.ID ≤ 1000000)) (by kernel_rfl) ?_ ?_)
      · refine SimI.rn 5 [(62, qb (decide (((-1) : Int) ≤ a0.Which))), (61, qb (decide (((-1) : Int) ≤ a0.Which))), (60, qb (decide (((-1) : Int) ≤ a0.Which))), (59, qj a0.Which), (58, qp 1 2)] [] (.split 62 (decide (((-1) : Int) ≤ a0.Which)) (by kernel_rfl) ?_ ?_)
        · refine SimI.rn 5 [(67, qb (decide (a0.Which ≤ 100))), (66, qb (decide (a0.Which ≤ 100))), (65, qb (decide (a0.Which ≤ 100))), (64, qj a0.Which), (63, qp 1 2)] [] (.split 67 (decide (a0.Which ≤ 100)) (by kernel_rfl) ?_ ?_)
          · refine SimI.rn 5 [(72, qb (decide (((-1) : Int) ≤ a0.To))), (71, qb (decide (((-1) : Int) ≤ a0.To))), (70, qb (decide (((-1) : Int) ≤ a0.To))), (69, qj a0.To), (68, qp 1 3)] [] (.split 72 (decide (((-1) : Int) ≤ a0.To)) (by kernel_rfl) ?_ ?_)
            · refine SimI.rn 5 [(77, qb (decide (a0.To ≤ 100))), (76, qb (decide (a0.To ≤ 100))), (75, qb (decide (a0.To ≤ 100))), (74, qj a0.To), (73, qp 1 3)] [] (.split 77 (decide (a0.To ≤ 100)) (by kernel_rfl) ?_ ?_)
              · refine SimI.rn 2 [(79, .agg [lj a0.Value.N, ls a0.Value.Text]), (78, qp 1 14)] [] (.cl 80 true [[]] 60 [79] (some (77, true)) (fun r10 => qb r10) [.agg [lj a0.Value.N, ls a0.Value.Text]] (F60_ok n a0.Value) (fun r10 => ?_))
                refine SimI.rd 2 [(7, qb r10), (81, qb r10)] [] (.thenN (.pr [1, 5, 6, 7] [1] [] [(1, qp 1 0), (5, qb b6), (6, qb b8), (7, qb r10)] [(1, some (.cells (Command.cells a0)))] ?_))
                exact F32_j12_ok n a0 b6 b8 r10
              · refine SimI.rd 5 [(7, qb false), (81, qb false), (80, tz), (79, tz), (78, tz)] [] (.thenN (.pr [1, 5, 6, 7] [1] [] [(1, qp 1 0), (5, qb b6), (6, qb b8), (7, qb false)] [(1, some (.cells (Command.cells a0)))] ?_))
                exact F32_j12_ok n a0 b6 b8 false
            · refine SimI.rd 10 [(7, qb false), (81, qb false), (80, tz), (79, tz), (78, tz), (77, qb false), (76, qb false), (75, tz), (74, tz), (73, tz)] [] (.thenN (.pr [1, 5, 6, 7] [1] [] [(1, qp 1 0), (5, qb b6), (6, qb b8), (7, qb false)] [(1, some (.cells (Command.cells a0)))] ?_))
              exact F32_j12_ok n a0 b6 b8 false
          · refine SimI.rd 15 [(7, qb false), (81, qb false), (80, tz), (79, tz), (78, tz), (77, qb false), (76, qb false), (75, tz), (74, tz), (73, tz), (72, qb false), (71, qb false), (70, tz), (69, tz), (68, tz)] [] (.thenN (.pr [1, 5, 6, 7] [1] [] [(1, qp 1 0), (5, qb b6), (6, qb b8), (7, qb false)] [(1, some (.cells (Command.cells a0)))] ?_))
            exact F32_j12_ok n a0 b6 b8 false
        · refine SimI.rd 20 [(7, qb false), (81, qb false), (80, tz), (79, tz), (78, tz), (77, qb false), (76, qb false), (75, tz), (74, tz), (73, tz), (72, qb false), (71, qb false), (70, tz), (69, tz), (68, tz), (67, qb false), (66, qb false), (65, tz), (64, tz), (63, tz)] [] (.thenN (.pr [1, 5, 6, 7] [1] [] [(1, qp 1 0), (5, qb b6), (6, qb b8), (7, qb false)] [(1, some (.cells (Command.cells a0)))] ?_))
          exact F32_j12_ok n a0 b6 b8 false
      · refine SimI.rd 25 [(7, qb false), (81, qb false), (80, tz), (79, tz), (78, tz), (77, qb false), (76, qb false), (75, tz), (74, tz), (73, tz), (72, qb false), (71, qb false), (70, tz), (69, tz), (68, tz), (67, qb false), (66, qb false), (65, tz), (64, tz), (63, tz), (62, qb false), (61, qb false), (60, tz), (59, tz), (58, tz)] [] (.thenN (.pr [1, 5, 6, 7] [1] [] [(1, qp 1 0), (5, qb b6), (6, qb b8), (7, qb false)] [(1, some (.cells (Command.cells a0)))] ?_))
        exact F32_j12_ok n a0 b6 b8 false
    · refine SimI.rd 30 [(7, qb false), (81, qb false), (80, tz), (79, tz), (78, tz), (77, qb false), (76, qb false), (75, tz), (74, tz), (73, tz), (72, qb false), (71, qb false), (70, tz), (69, tz), (68, tz), (67, qb false), (66, qb false), (65, tz), (64, tz), (63, tz), (62, qb false), (61, qb false), (60, tz), (59, tz), (58, tz), (57, qb false), (56, qb false), (55, tz), (54, tz), (53, tz)] [] (.thenN (.pr [1, 5, 6, 7] [1] [] [(1, qp 1 0), (5, qb b6), (6, qb b8), (7, qb false)] [(1, some (.cells (Command.cells a0)))] ?_))
      exact F32_j12_ok n a0 b6 b8 false

def F32_j7 (n : Nat) (a0 : Command) (b6 : Bool) : Option Bool :=
    if decide ((0 : Int) ≤ a0.Client) then
      if decide (a0.Client < 4) then
        if decide ((0 : Int) ≤ a0.Session) then
          F32_j9 n a0 b6 (decide (a0.Session ≤ 1000000))
        else
          F32_j9 n a0 b6 false
      else
        F32_j9 n a0 b6 false
    else
      F32_j9 n a0 b6 false
theorem F32_j7_ok (n : Nat) (a0 : Command) (b6 : Bool) : Sim Try.prog D (n + 8) p32c31 [(1, qp 1 0), (5, qb b6)] [(1, some (.cells (Command.cells a0)))] (F32_j7 n a0 b6) (QF false pc32_r 0 F32_e) := by
    unfold F32_j7
    refine Sim.seq (.rg [(1, qp 1 0), (5, qb b6)] [(1, some (.cells (Command.cells a0)))] (.rn 4 [(34, qb (decide ((0 : Int) ≤ a0.Client))), (33, qb (decide ((0 : Int) ≤ a0.Client))), (32, qj a0.Client), (31, qp 1 16)] [] (.split 34 (decide ((0 : Int) ≤ a0.Client)) (by kernel_rfl) ?_ ?_)))
    · refine SimI.rn 5 [(39, qb (decide (a0.Client < 4))), (38, qb (decide (a0.Client < 4))), (37, qb (decide (a0.Client < 4))), (36, qj a0.Client), (35, qp 1 16)] [] (.split 39 (decide (a0.Client < 4)) (by kernel_rfl) ?_ ?_)
      · refine SimI.rn 5 [(44, qb (decide ((0 : Int) ≤ a0.Session))), (43, qb (decide ((0 : Int) ≤ a0.Session))), (42, qb (decide ((0 : Int) ≤ a0.Session))), (41, qj a0.Session), (40, qp 1 17)] [] (.split 44 (decide ((0 : Int) ≤ a0.Session)) (by kernel_rfl) ?_ ?_)
        · refine SimI.rd 5 [(6, qb (decide (a0.Session ≤ 1000000))), (48, qb (decide (a0.Session ≤ 1000000))), (47, qb (decide (a0.Session ≤ 1000000))), (46, qj a0.Session), (45, qp 1 17)] [] (.thenN (.pr [1, 5, 6] [1] [] [(1, qp 1 0), (5, qb b6), (6, qb (decide (a0.Session ≤ 1000000)))] [(1, some (.cells (Command.cells a0)))] ?_))
          exact F32_j9_ok n a0 b6 (decide (a0.Session ≤ 1000000))
        · refine SimI.rd 5 [(6, qb false), (48, qb false), (47, tz), (46, tz), (45, tz)] [] (.thenN (.pr [1, 5, 6] [1] [] [(1, qp 1 0), (5, qb b6), (6, qb false)] [(1, some (.cells (Command.cells a0)))] ?_))
          exact F32_j9_ok n a0 b6 false
      · refine SimI.rd 10 [(6, qb false), (48, qb false), (47, tz), (46, tz), (45, tz), (44, qb false), (43, qb false), (42, tz), (41, tz), (40, tz)] [] (.thenN (.pr [1, 5, 6] [1] [] [(1, qp 1 0), (5, qb b6), (6, qb false)] [(1, some (.cells (Command.cells a0)))] ?_))
        exact F32_j9_ok n a0 b6 false
    · refine SimI.rd 15 [(6, qb false), (48, qb false), (47, tz), (46, tz), (45, tz), (44, qb false), (43, qb false), (42, tz), (41, tz), (40, tz), (39, qb false), (38, qb false), (37, tz), (36, tz), (35, tz)] [] (.thenN (.pr [1, 5, 6] [1] [] [(1, qp 1 0), (5, qb b6), (6, qb false)] [(1, some (.cells (Command.cells a0)))] ?_))
      exact F32_j9_ok n a0 b6 false

def F32 (n : Nat) (a0 : Command) : Option Bool :=
  (F60 n a0.F.a0).bind fun (r1 : Bool) =>
  if !(r1) then
    some false
  else
    (F60 n a0.F.a1).bind fun (r2 : Bool) =>
    if !(r2) then
      some false
    else
      (F60 n a0.F.a2).bind fun (r3 : Bool) =>
      if !(r3) then
        some false
      else
        (F60 n a0.F.a3).bind fun (r4 : Bool) =>
        if !(r4) then
          some false
        else
          if decide ((1 : Int) ≤ a0.Kind) then
            if decide (a0.Kind ≤ 8) then
              (F61 n a0).bind fun (r5 : Command) =>
              F32_j7 n a0 (Command.eqb a0 r5)
            else
              F32_j7 n a0 false
          else
            F32_j7 n a0 false
theorem F32_ok (n : Nat) (a0 : Command) : ∀ r, F32 n a0 = some r → D 32 [.agg (Command.cells a0)] [] = some (F32_e r) := by
  refine fn_to (D := D) (n := n + 8) (nt := 111) (rs := pc32_r) (c := p32c34) (L := [(0, .agg (Command.cells a0))]) (M := []) (k := 0) rfl rfl rfl rfl rfl rfl rfl ?_
  unfold F32
  refine Sim.sr 2 [(2, qb false), (1, qp 1 0)] [(1, some (.cells (Command.cells a0)))] (.seq (.sr 3 [(10, qj 0), (9, .agg (A4_Field.cells a0.F)), (8, qp 1 6)] [] (.block (.loop (.succ (.seq (.rg [(1, qp 1 0), (9, .agg (A4_Field.cells a0.F)), (10, qj 0)] [(1, some (.cells (Command.cells a0)))] (.rd 1 [(11, qb true)] [] (.thenN (.seq (.condT (by kernel_rfl) (.skip (.thenN (.seq (.block (.sr 3 [(4, qp 4 0), (12, .agg [lj a0.F.a0.N, ls a0.F.a0.Text])] [(4, some (.cells [lj a0.F.a0.N, ls a0.F.a0.Text])), (4, some (.cells [lj 0, ls be]))] (.st 1 [(13, .agg [lj a0.F.a0.N, ls a0.F.a0.Text])] [] (.cl 14 true [[]] 60 [13] none (fun r1 => qb r1) [.agg [lj a0.F.a0.N, ls a0.F.a0.Text]] (F60_ok n a0.F.a0) (fun r1 => ?_)))))))))))))))))))
  refine SimI.rd 1 [(15, qb (!(r1)))] [] (.thenN (.cond (!(r1)) (by kernel_rfl) ?_ ?_))
  · exact Sim.sr 1 [(2, qb false)] [] (.ret (.blockR (.thenR (.loopR (.blockR (.thenR .fn))))))
  · refine Sim.skip (.blockN (.thenN (.region0 (.rd 2 [(10, qj 1), (16, qj 1)] [] (.loopN (.succ (.seq (.rg [(1, qp 1 0), (9, .agg (A4_Field.cells a0.F)), (10, qj 1)] [(1, some (.cells (Command.cells a0)))] (.rd 1 [(11, qb true)] [] (.thenN (.seq (.condT (by kernel_rfl) (.skip (.thenN (.seq (.block (.sr 3 [(4, qp 4 0), (12, .agg [lj a0.F.a1.N, ls a0.F.a1.Text])] [(4, some (.cells [lj a0.F.a1.N, ls a0.F.a1.Text])), (4, some (.cells [lj 0, ls be]))] (.st 1 [(13, .agg [lj a0.F.a1.N, ls a0.F.a1.Text])] [] (.cl 14 true [[]] 60 [13] none (fun r2 => qb r2) [.agg [lj a0.F.a1.N, ls a0.F.a1.Text]] (F60_ok n a0.F.a1) (fun r2 => ?_))))))))))))))))))))
    refine SimI.rd 1 [(15, qb (!(r2)))] [] (.thenN (.cond (!(r2)) (by kernel_rfl) ?_ ?_))
    · exact Sim.sr 1 [(2, qb false)] [] (.ret (.blockR (.thenR (.loopR (.blockR (.thenR .fn))))))
    · refine Sim.skip (.blockN (.thenN (.region0 (.rd 2 [(10, qj 2), (16, qj 2)] [] (.loopN (.succ (.seq (.rg [(1, qp 1 0), (9, .agg (A4_Field.cells a0.F)), (10, qj 2)] [(1, some (.cells (Command.cells a0)))] (.rd 1 [(11, qb true)] [] (.thenN (.seq (.condT (by kernel_rfl) (.skip (.thenN (.seq (.block (.sr 3 [(4, qp 4 0), (12, .agg [lj a0.F.a2.N, ls a0.F.a2.Text])] [(4, some (.cells [lj a0.F.a2.N, ls a0.F.a2.Text])), (4, some (.cells [lj 0, ls be]))] (.st 1 [(13, .agg [lj a0.F.a2.N, ls a0.F.a2.Text])] [] (.cl 14 true [[]] 60 [13] none (fun r3 => qb r3) [.agg [lj a0.F.a2.N, ls a0.F.a2.Text]] (F60_ok n a0.F.a2) (fun r3 => ?_))))))))))))))))))))
      refine SimI.rd 1 [(15, qb (!(r3)))] [] (.thenN (.cond (!(r3)) (by kernel_rfl) ?_ ?_))
      · exact Sim.sr 1 [(2, qb false)] [] (.ret (.blockR (.thenR (.loopR (.blockR (.thenR .fn))))))
      · refine Sim.skip (.blockN (.thenN (.region0 (.rd 2 [(10, qj 3), (16, qj 3)] [] (.loopN (.succ (.seq (.rg [(1, qp 1 0), (9, .agg (A4_Field.cells a0.F)), (10, qj 3)] [(1, some (.cells (Command.cells a0)))] (.rd 1 [(11, qb true)] [] (.thenN (.seq (.condT (by kernel_rfl) (.skip (.thenN (.seq (.block (.sr 3 [(4, qp 4 0), (12, .agg [lj a0.F.a3.N, ls a0.F.a3.Text])] [(4, some (.cells [lj a0.F.a3.N, ls a0.F.a3.Text])), (4, some (.cells [lj 0, ls be]))] (.st 1 [(13, .agg [lj a0.F.a3.N, ls a0.F.a3.Text])] [] (.cl 14 true [[]] 60 [13] none (fun r4 => qb r4) [.agg [lj a0.F.a3.N, ls a0.F.a3.Text]] (F60_ok n a0.F.a3) (fun r4 => ?_))))))))))))))))))))
        refine SimI.rd 1 [(15, qb (!(r4)))] [] (.thenN (.cond (!(r4)) (by kernel_rfl) ?_ ?_))
        · exact Sim.sr 1 [(2, qb false)] [] (.ret (.blockR (.thenR (.loopR (.blockR (.thenR .fn))))))
        · refine Sim.skip (.blockN (.thenN (.region0 (.rd 2 [(10, qj 4), (16, qj 4)] [] (.loopN (.succ (.seq (.rg [(1, qp 1 0), (9, .agg (A4_Field.cells a0.F)), (10, qj 4)] [(1, some (.cells (Command.cells a0)))] (.rd 1 [(11, qb false)] [] (.thenN (.seq (.condF (by kernel_rfl) (.exit (.thenX (.loopX (.blockX (.thenN (.st 4 [(20, qb (decide ((1 : Int) ≤ a0.Kind))), (19, qb (decide ((1 : Int) ≤ a0.Kind))), (18, qj a0.Kind), (17, qp 1 0)] [] (.split 20 (decide ((1 : Int) ≤ a0.Kind)) (by kernel_rfl) ?_ ?_)))))))))))))))))))
          · refine SimI.rn 5 [(25, qb (decide (a0.Kind ≤ 8))), (24, qb (decide (a0.Kind ≤ 8))), (23, qb (decide (a0.Kind ≤ 8))), (22, qj a0.Kind), (21, qp 1 0)] [] (.split 25 (decide (a0.Kind ≤ 8)) (by kernel_rfl) ?_ ?_)
            · refine SimI.rn 2 [(27, .agg (Command.cells a0)), (26, .agg (Command.cells a0))] [] (.bind (og := F61 n a0) ⟨some 28, POp.call false [[]] 61 [27], some (25, true), [(27, Hint.imm)]⟩ (fun r5 => [(28, .agg (Command.cells r5))]) (fun r5 => []) (by kernel_rfl) (fun r5 hr => pOp_eff (by kernel_rfl) (by kernel_rfl) (eff_call (ARGS := [.agg (Command.cells a0)]) (by kernel_rfl) (args_clean (by kernel_rfl) args_nil) (F61_ok n a0 r5 hr) (by kernel_rfl))) (fun r5 => ?_))
              refine SimI.step ⟨some 29, POp.prim (Prim.bin BinOp.eql 53 false false) [26, 28], some (25, true), [(26, Hint.imm), (28, Hint.imm)]⟩ [(29, qb (Command.eqb a0 r5))] [] (by kernel_rfl) (pOp_eff (by kernel_rfl) (by kernel_rfl) (eff_prim (by kernel_rfl) (Command_eql a0 r5 _ _))) (.rd 2 [(5, qb (Command.eqb a0 r5)), (30, qb (Command.eqb a0 r5))] [] (.thenN (.pr [1, 5] [1] [] [(1, qp 1 0), (5, qb (Command.eqb a0 r5))] [(1, some (.cells (Command.cells a0)))] ?_)))
              exact F32_j7_ok n a0 (Command.eqb a0 r5)
            · refine SimI.rd 6 [(5, qb false), (30, qb false), (29, tz), (28, tz), (27, tz), (26, tz)] [] (.thenN (.pr [1, 5] [1] [] [(1, qp 1 0), (5, qb false)] [(1, some (.cells (Command.cells a0)))] ?_))
              exact F32_j7_ok n a0 false
          · refine SimI.rd 11 [(5, qb false), (30, qb false), (29, tz), (28, tz), (27, tz), (26, tz), (25, qb false), (24, qb false), (23, tz), (22, tz), (21, tz)] [] (.thenN (.pr [1, 5] [1] [] [(1, qp 1 0), (5, qb false)] [(1, some (.cells (Command.cells a0)))] ?_))
            exact F32_j7_ok n a0 false


-- 33: vedette/cmd.Watches
def F33_e : Bool → PV × List Ob := fun r => (.one (lb r), [])
def F33 (n : Nat) (a0 : Command) : Option Bool :=
  if decide ((6 : Int) ≤ a0.Kind) then
    some (decide (a0.Kind ≤ 8))
  else
    some false
theorem F33_ok (n : Nat) (a0 : Command) : ∀ r, F33 n a0 = some r → D 33 [.agg (Command.cells a0)] [] = some (F33_e r) := by
  refine fn_to (D := D) (n := n + 8) (nt := 11) (rs := pc33_r) (c := p33c5) (L := [(0, .agg (Command.cells a0))]) (M := []) (k := 0) rfl rfl rfl rfl rfl rfl rfl ?_
  unfold F33
  refine Sim.sr 2 [(2, qb false), (1, qp 1 0)] [(1, some (.cells (Command.cells a0)))] (.st 4 [(6, qb (decide ((6 : Int) ≤ a0.Kind))), (5, qb (decide ((6 : Int) ≤ a0.Kind))), (4, qj a0.Kind), (3, qp 1 0)] [] (.split 6 (decide ((6 : Int) ≤ a0.Kind)) (by kernel_rfl) ?_ ?_))
  · exact SimI.rd 5 [(2, qb (decide (a0.Kind ≤ 8))), (10, qb (decide (a0.Kind ≤ 8))), (9, qb (decide (a0.Kind ≤ 8))), (8, qj a0.Kind), (7, qp 1 0)] [] (.thenN (.ret .fn))
  · exact SimI.rd 5 [(2, qb false), (10, qb false), (9, tz), (8, tz), (7, tz)] [] (.thenN (.ret .fn))


-- 31: vedette/note.Is$1
def F31_e : Bool → PV × List Ob := fun r => (.one (lb r), [])
def F31 (n : Nat) (a0 : Command) : Option Bool :=
  (F32 n a0).bind fun (r1 : Bool) =>
  if !(r1) then
    some true
  else
    (F33 n a0).bind fun (r2 : Bool) =>
    some (!(r2))
theorem F31_ok (n : Nat) (a0 : Command) : ∀ r, F31 n a0 = some r → D 31 [.agg (Command.cells a0)] [] = some (F31_e r) := by
  refine fn_to (D := D) (n := n + 8) (nt := 11) (rs := pc31_r) (c := p31c5) (L := [(0, .agg (Command.cells a0))]) (M := []) (k := 0) rfl rfl rfl rfl rfl rfl rfl ?_
  unfold F31
  refine Sim.sr 2 [(2, qb false), (1, qp 1 0)] [(1, some (.cells (Command.cells a0)))] (.st 1 [(3, .agg (Command.cells a0))] [] (.cl 4 true [[]] 32 [3] none (fun r1 => qb r1) [.agg (Command.cells a0)] (F32_ok n a0) (fun r1 => ?_)))
  refine SimI.rn 2 [(6, qb (!(r1))), (5, qb (!(r1)))] [] (.split 6 (!(r1)) (by kernel_rfl) ?_ ?_)
  · exact SimI.rd 5 [(2, qb true), (10, qb true), (9, tz), (8, tz), (7, tz)] [] (.thenN (.ret .fn))
  · refine SimI.rn 1 [(7, .agg (Command.cells a0))] [] (.cl 8 true [[]] 33 [7] (some (6, false)) (fun r2 => qb r2) [.agg (Command.cells a0)] (F33_ok n a0) (fun r2 => ?_))
    exact SimI.rd 3 [(2, qb (!(r2))), (10, qb (!(r2))), (9, qb (!(r2)))] [] (.thenN (.ret .fn))


-- 63: vedette/cells.Is
def F63_e : Bool → PV × List Ob := fun r => (.one (lb r), [])
def F63 (n : Nat) (a0 : Int) : Option Bool :=
  if decide ((0 : Int) ≤ a0) then
    some (decide (a0 < 16))
  else
    some false
theorem F63_ok (n : Nat) (a0 : Int) : ∀ r, F63 n a0 = some r → D 63 [.one (li .i64 a0)] [] = some (F63_e r) := by
  refine fn_to (D := D) (n := n + 8) (nt := 9) (rs := pc63_r) (c := p63c5) (L := [(0, qj a0)]) (M := []) (k := 0) rfl rfl rfl rfl rfl rfl rfl ?_
  unfold F63
  refine Sim.sr 1 [(2, qb false)] [] (.st 3 [(5, qb (decide ((0 : Int) ≤ a0))), (4, qb (decide ((0 : Int) ≤ a0))), (3, qj a0)] [] (.split 5 (decide ((0 : Int) ≤ a0)) (by kernel_rfl) ?_ ?_))
  · exact SimI.rd 4 [(2, qb (decide (a0 < 16))), (8, qb (decide (a0 < 16))), (7, qb (decide (a0 < 16))), (6, qj a0)] [] (.thenN (.ret .fn))
  · exact SimI.rd 4 [(2, qb false), (8, qb false), (7, tz), (6, tz)] [] (.thenN (.ret .fn))


-- 34: vedette/note.isHands
def F34_e : Bool → PV × List Ob := fun r => (.one (lb r), [])
def F34_l4 (n : Nat) (a0 : (List Hand)) (a1 : Int) (a2 : Int) : Nat → Int → Option Bool
  | 0, _ => none
  | m + 1, i3 =>
    if decide (i3 < ((a0).length : Int)) then
      (ix a0 i3).bind fun (x5 : Hand) =>
      (F63 n x5.Cell).bind fun (r6 : Bool) =>
      if !(r6) then
        some false
      else
        if decide ((0 : Int) < i3) then
          (ix a0 (IntKind.wrap .i64 (i3 - 1))).bind fun (x7 : Hand) =>
          if decide (x5.Cell ≤ x7.Cell) then
            some false
          else
            if decide (x5.To < 0) then
              some false
            else
              if decide (a2 ≤ x5.To) then
                some false
              else
                if x5.To == a1 then
                  some false
                else
                  (F34_l4 n a0 a1 a2 m) (IntKind.wrap .i64 (i3 + 1))
        else
          if decide (x5.To < 0) then
            some false
          else
            if decide (a2 ≤ x5.To) then
              some false
            else
              if x5.To == a1 then
                some false
              else
                (F34_l4 n a0 a1 a2 m) (IntKind.wrap .i64 (i3 + 1))
    else
      some true
theorem F34_l4_ok (n : Nat) (a0 : (List Hand)) (a1 : Int) (a2 : Int) : ∀ (m : Nat) (i3 : Int), SimL Try.prog D (n + 8) m p34c20 [(0, .one (vw Hand.cod a0)), (1, qj a1), (2, qj a2), (9, .one (vw Hand.cod a0)), (10, qj ((a0).length : Int)), (11, qj i3)] [] (F34_l4 n a0 a1 a2 m i3) (QB 0 (QT Try.prog D (n + 8) p34c26 (QF false pc34_r 0 F34_e))) := by
  intro m_l4
  induction m_l4 with
  | zero => intro i3; exact SimL.zero'  rfl
  | succ m_l4 ih_l4 =>
    intro i3
    refine SimL.succ ?_
    unfold F34_l4
    refine Sim.seq (.rg [(0, .one (vw Hand.cod a0)), (1, qj a1), (2, qj a2), (9, .one (vw Hand.cod a0)), (10, qj ((a0).length : Int)), (11, qj i3)] [] (.rd 1 [(12, qb (decide (i3 < ((a0).length : Int))))] [] (.thenN (.seq (.cond (decide (i3 < ((a0).length : Int))) (by kernel_rfl) ?_ ?_)))))
    · refine Sim.skip (.thenN (.seq (.block (.st 1 [(13, qj i3)] [] (.bind (og := ix a0 i3) ⟨some 14, POp.iaddrS 2 (Operand.tmp 9) (Operand.tmp 11), none, []⟩ (fun x5 => [(14, .one (.eptr (Hand.cod.enc x5) 0))]) (fun x5 => []) (by kernel_rfl) (fun x5 hr => pOp_eff (by kernel_rfl) (by kernel_rfl) (eff_idx (c := Hand.cod) (l := a0) (k := .i64) (n := i3) (by kernel_rfl) (by kernel_rfl) (by kernel_rfl) hr)) (fun x5 => ?_))))))
      refine SimI.rd 4 [(7, qj i3), (8, qp 8 0), (15, .agg [lj x5.Cell, lj x5.To])] [(8, some (.cells [lj x5.Cell, lj x5.To])), (8, some (.cells [lj 0, lj 0]))] (.thenN (.st 2 [(17, qj x5.Cell), (16, qp 8 0)] [] (.bind (og := F63 n x5.Cell) ⟨some 18, POp.call false [[]] 63 [17], none, [(17, Hint.imm)]⟩ (fun r6 => [(18, qb r6)]) (fun r6 => []) (by kernel_rfl) (fun r6 hr => pOp_eff (by kernel_rfl) (by kernel_rfl) (eff_call (ARGS := [qj x5.Cell]) (by kernel_rfl) (args_clean (by kernel_rfl) args_nil) (F63_ok n x5.Cell r6 hr) (by kernel_rfl))) (fun r6 => ?_))))
      refine SimI.rn 2 [(20, qb (!(r6))), (19, qb (!(r6)))] [] (.split 20 (!(r6)) (by kernel_rfl) ?_ ?_)
      · exact SimI.rd 31 [(51, qb true), (50, tz), (49, tz), (48, tz), (47, tz), (46, qb true), (45, qb true), (44, tz), (43, tz), (42, tz), (41, tz), (40, qb true), (39, qb true), (38, tz), (37, tz), (36, tz), (35, qb true), (34, qb true), (33, tz), (32, tz), (31, tz), (30, tz), (29, tz), (28, tz), (27, tz), (26, tz), (25, tz), (24, tz), (23, tz), (22, tz), (21, tz)] [] (.thenN (.condT (by kernel_rfl) (.sr 1 [(6, qb false)] [] (.ret (.blockR (.thenR (.loopR (.blockR (.thenR .fn)))))))))
      · refine SimI.rn 3 [(23, qb (decide ((0 : Int) < i3))), (22, qb (decide ((0 : Int) < i3))), (21, qj i3)] [] (.split 23 (decide ((0 : Int) < i3)) (by kernel_rfl) ?_ ?_)
        · refine SimI.rn 5 [(28, qj (iw .i64 (i3 - 1))), (27, qj i3), (26, .one (vw Hand.cod a0)), (25, qj x5.Cell), (24, qp 8 0)] [] (.bind (og := ix a0 (iw .i64 (i3 - 1))) ⟨some 29, POp.iaddrS 2 (Operand.tmp 26) (Operand.tmp 28), some (23, true), [(26, Hint.imm), (28, Hint.imm)]⟩ (fun x7 => [(29, .one (.eptr (Hand.cod.enc x7) 0))]) (fun x7 => []) (by kernel_rfl) (fun x7 hr => pOp_eff (by kernel_rfl) (by kernel_rfl) (eff_idx (c := Hand.cod) (l := a0) (k := .i64) (n := IntKind.wrap .i64 (i3 - 1)) (by kernel_rfl) (by kernel_rfl) (by kernel_rfl) hr)) (fun x7 => ?_))
          refine SimI.rn 6 [(35, qb (decide (x5.Cell ≤ x7.Cell))), (34, qb (decide (x5.Cell ≤ x7.Cell))), (33, qb (decide (x5.Cell ≤ x7.Cell))), (32, qb (decide (x5.Cell ≤ x7.Cell))), (31, qj x7.Cell), (30, .one (.eptr (Hand.cod.enc x7) 0))] [] (.split 35 (decide (x5.Cell ≤ x7.Cell)) (by kernel_rfl) ?_ ?_)
          · exact SimI.rd 16 [(51, qb true), (50, tz), (49, tz), (48, tz), (47, tz), (46, qb true), (45, qb true), (44, tz), (43, tz), (42, tz), (41, tz), (40, qb true), (39, qb true), (38, tz), (37, tz), (36, tz)] [] (.thenN (.condT (by kernel_rfl) (.sr 1 [(6, qb false)] [] (.ret (.blockR (.thenR (.loopR (.blockR (.thenR .fn)))))))))
          · refine SimI.rn 5 [(40, qb (decide (x5.To < 0))), (39, qb (decide (x5.To < 0))), (38, qb (decide (x5.To < 0))), (37, qj x5.To), (36, qp 8 1)] [] (.split 40 (decide (x5.To < 0)) (by kernel_rfl) ?_ ?_)
            · exact SimI.rd 11 [(51, qb true), (50, tz), (49, tz), (48, tz), (47, tz), (46, qb true), (45, qb true), (44, tz), (43, tz), (42, tz), (41, tz)] [] (.thenN (.condT (by kernel_rfl) (.sr 1 [(6, qb false)] [] (.ret (.blockR (.thenR (.loopR (.blockR (.thenR .fn)))))))))
            · refine SimI.rn 6 [(46, qb (decide (a2 ≤ x5.To))), (45, qb (decide (a2 ≤ x5.To))), (44, qb (decide (a2 ≤ x5.To))), (43, qj a2), (42, qj x5.To), (41, qp 8 1)] [] (.split 46 (decide (a2 ≤ x5.To)) (by kernel_rfl) ?_ ?_)
              · exact SimI.rd 5 [(51, qb true), (50, tz), (49, tz), (48, tz), (47, tz)] [] (.thenN (.condT (by kernel_rfl) (.sr 1 [(6, qb false)] [] (.ret (.blockR (.thenR (.loopR (.blockR (.thenR .fn)))))))))
              · refine SimI.rd 5 [(51, qb (x5.To == a1)), (50, qb (x5.To == a1)), (49, qj a1), (48, qj x5.To), (47, qp 8 1)] [] (.thenN (.cond (x5.To == a1) (by kernel_rfl) ?_ ?_))
                · exact Sim.sr 1 [(6, qb false)] [] (.ret (.blockR (.thenR (.loopR (.blockR (.thenR .fn))))))
                · refine Sim.skip (.blockN (.thenN (.region0 (.rd 2 [(11, qj (iw .i64 (i3 + 1))), (52, qj (iw .i64 (i3 + 1)))] [] (.loopN (.pr [0, 1, 2, 9, 10, 11] [8] [] [(0, .one (vw Hand.cod a0)), (1, qj a1), (2, qj a2), (9, .one (vw Hand.cod a0)), (10, qj ((a0).length : Int)), (11, qj (iw .i64 (i3 + 1)))] [] ?_))))))
                  exact ih_l4 (iw .i64 (i3 + 1))
        · refine SimI.rn 17 [(40, qb (decide (x5.To < 0))), (39, qb (decide (x5.To < 0))), (38, qb (decide (x5.To < 0))), (37, qj x5.To), (36, qp 8 1), (35, qb false), (34, qb false), (33, qb false), (32, tz), (31, tz), (30, tz), (29, tz), (28, tz), (27, tz), (26, tz), (25, tz), (24, tz)] [] (.split 40 (decide (x5.To < 0)) (by kernel_rfl) ?_ ?_)
          · exact SimI.rd 11 [(51, qb true), (50, tz), (49, tz), (48, tz), (47, tz), (46, qb true), (45, qb true), (44, tz), (43, tz), (42, tz), (41, tz)] [] (.thenN (.condT (by kernel_rfl) (.sr 1 [(6, qb false)] [] (.ret (.blockR (.thenR (.loopR (.blockR (.thenR .fn)))))))))
          · refine SimI.rn 6 [(46, qb (decide (a2 ≤ x5.To))), (45, qb (decide (a2 ≤ x5.To))), (44, qb (decide (a2 ≤ x5.To))), (43, qj a2), (42, qj x5.To), (41, qp 8 1)] [] (.split 46 (decide (a2 ≤ x5.To)) (by kernel_rfl) ?_ ?_)
            · exact SimI.rd 5 [(51, qb true), (50, tz), (49, tz), (48, tz), (47, tz)] [] (.thenN (.condT (by kernel_rfl) (.sr 1 [(6, qb false)] [] (.ret (.blockR (.thenR (.loopR (.blockR (.thenR .fn)))))))))
            · refine SimI.rd 5 [(51, qb (x5.To == a1)), (50, qb (x5.To == a1)), (49, qj a1), (48, qj x5.To), (47, qp 8 1)] [] (.thenN (.cond (x5.To == a1) (by kernel_rfl) ?_ ?_))
              · exact Sim.sr 1 [(6, qb false)] [] (.ret (.blockR (.thenR (.loopR (.blockR (.thenR .fn))))))
              · refine Sim.skip (.blockN (.thenN (.region0 (.rd 2 [(11, qj (iw .i64 (i3 + 1))), (52, qj (iw .i64 (i3 + 1)))] [] (.loopN (.pr [0, 1, 2, 9, 10, 11] [8] [] [(0, .one (vw Hand.cod a0)), (1, qj a1), (2, qj a2), (9, .one (vw Hand.cod a0)), (10, qj ((a0).length : Int)), (11, qj (iw .i64 (i3 + 1)))] [] ?_))))))
                exact ih_l4 (iw .i64 (i3 + 1))
    · exact Sim.exit (.thenX (.loopX (.blockX (.thenN (.sr 1 [(6, qb true)] [] (.ret .fn))))))

def F34 (n : Nat) (a0 : (List Hand)) (a1 : Int) (a2 : Int) : Option Bool :=
  F34_l4 n a0 a1 a2 (n + 8) 0
theorem F34_ok (n : Nat) (a0 : (List Hand)) (a1 : Int) (a2 : Int) : ∀ r, F34 n a0 a1 a2 = some r → D 34 [.one (vw Hand.cod a0), .one (li .i64 a1), .one (li .i64 a2)] [] = some (F34_e r) := by
  refine fn_to (D := D) (n := n + 8) (nt := 53) (rs := pc34_r) (c := p34c28) (L := [(0, .one (vw Hand.cod a0)), (1, qj a1), (2, qj a2)]) (M := []) (k := 0) rfl rfl rfl rfl rfl rfl rfl ?_
  unfold F34
  refine Sim.sr 1 [(6, qb false)] [] (.seq (.sr 3 [(11, qj 0), (10, qj ((a0).length : Int)), (9, .one (vw Hand.cod a0))] [] (.block (.loop (.pr [0, 1, 2, 9, 10, 11] [8] [] [(0, .one (vw Hand.cod a0)), (1, qj a1), (2, qj a2), (9, .one (vw Hand.cod a0)), (10, qj ((a0).length : Int)), (11, qj 0)] [] ?_)))))
  exact F34_l4_ok n a0 a1 a2 (n + 8) 0


-- 78: vedette/geom.On
def F78_e : Bool → PV × List Ob := fun r => (.one (lb r), [])
def F78 (n : Nat) (a0 : Point) : Option Bool :=
  if decide ((0 : Int) ≤ a0.X) then
    if decide (a0.X < 64) then
      if decide ((0 : Int) ≤ a0.Y) then
        some (decide (a0.Y < 64))
      else
        some false
    else
      some false
  else
    some false
theorem F78_ok (n : Nat) (a0 : Point) : ∀ r, F78 n a0 = some r → D 78 [.agg [li .i64 a0.X, li .i64 a0.Y]] [] = some (F78_e r) := by
  refine fn_to (D := D) (n := n + 8) (nt := 21) (rs := pc78_r) (c := p78c5) (L := [(0, .agg [lj a0.X, lj a0.Y])]) (M := []) (k := 0) rfl rfl rfl rfl rfl rfl rfl ?_
  unfold F78
  refine Sim.sr 2 [(2, qb false), (1, qp 1 0)] [(1, some (.cells [lj a0.X, lj a0.Y]))] (.st 4 (w14 a0) [] (.split 6 (decide ((0 : Int) ≤ a0.X)) (by kernel_rfl) ?_ ?_))
  · refine SimI.rn 5 (w15 a0) [] (.split 11 (decide (a0.X < 64)) (by kernel_rfl) ?_ ?_)
    · refine SimI.rn 5 (w16 a0) [] (.split 16 (decide ((0 : Int) ≤ a0.Y)) (by kernel_rfl) ?_ ?_)
      · exact SimI.rd 5 (w17 a0) [] (.thenN (.ret .fn))
      · exact SimI.rd 5 [(2, qb false), (20, qb false), (19, tz), (18, tz), (17, tz)] [] (.thenN (.ret .fn))
    · exact SimI.rd 10 [(2, qb false), (20, qb false), (19, tz), (18, tz), (17, tz), (16, qb false), (15, qb false), (14, tz), (13, tz), (12, tz)] [] (.thenN (.ret .fn))
  · exact SimI.rd 15 [(2, qb false), (20, qb false), (19, tz), (18, tz), (17, tz), (16, qb false), (15, qb false), (14, tz), (13, tz), (12, tz), (11, qb false), (10, qb false), (9, tz), (8, tz), (7, tz)] [] (.thenN (.ret .fn))


-- 94: vedette/morton.spread
def F94_e : Int → PV × List Ob := fun r => (.one (li .u32 r), [])
def F94 (n : Nat) (a0 : Int) : Option Int :=
  some (bitsI .and .u32 (bitsI .or .u32 (bitsI .and .u32 (bitsI .or .u32 (bitsI .and .u32 (bitsI .or .u32 (bitsI .and .u32 (bitsI .or .u32 a0 (shlI .u32 a0 8)) 16711935) (shlI .u32 (bitsI .and .u32 (bitsI .or .u32 a0 (shlI .u32 a0 8)) 16711935) 4)) 252645135) (shlI .u32 (bitsI .and .u32 (bitsI .or .u32 (bitsI .and .u32 (bitsI .or .u32 a0 (shlI .u32 a0 8)) 16711935) (shlI .u32 (bitsI .and .u32 (bitsI .or .u32 a0 (shlI .u32 a0 8)) 16711935) 4)) 252645135) 2)) 858993459) (shlI .u32 (bitsI .and .u32 (bitsI .or .u32 (bitsI .and .u32 (bitsI .or .u32 (bitsI .and .u32 (bitsI .or .u32 a0 (shlI .u32 a0 8)) 16711935) (shlI .u32 (bitsI .and .u32 (bitsI .or .u32 a0 (shlI .u32 a0 8)) 16711935) 4)) 252645135) (shlI .u32 (bitsI .and .u32 (bitsI .or .u32 (bitsI .and .u32 (bitsI .or .u32 a0 (shlI .u32 a0 8)) 16711935) (shlI .u32 (bitsI .and .u32 (bitsI .or .u32 a0 (shlI .u32 a0 8)) 16711935) 4)) 252645135) 2)) 858993459) 1)) 1431655765)
theorem F94_ok (n : Nat) (a0 : Int) : ∀ r, F94 n a0 = some r → D 94 [.one (li .u32 a0)] [] = some (F94_e r) := by
  refine fn_to (D := D) (n := n + 8) (nt := 24) (rs := pc94_r) (c := p94c22) (L := [(0, .one (li .u32 a0))]) (M := []) (k := 0) rfl rfl rfl rfl rfl rfl rfl ?_
  unfold F94
  exact Sim.sr 1 [(2, .one (li .u32 0))] [] (.seq (.sr 6 [(10, qj 0), (9, .agg [li .u64 8, li .u32 16711935, li .u64 4, li .u32 252645135, li .u64 2, li .u32 858993459, li .u64 1, li .u32 1431655765]), (8, .agg [li .u64 1, li .u32 1431655765]), (7, .agg [li .u64 2, li .u32 858993459]), (6, .agg [li .u64 4, li .u32 252645135]), (5, .agg [li .u64 8, li .u32 16711935])] [] (.block (.loop (.succ (.seq (.rg [(0, .one (li .u32 a0)), (9, .agg [li .u64 8, li .u32 16711935, li .u64 4, li .u32 252645135, li .u64 2, li .u32 858993459, li .u64 1, li .u32 1431655765]), (10, qj 0)] [] (.rd 1 [(11, qb true)] [] (.thenN (.seq (.condT (by kernel_rfl) (.skip (.thenN (.seq (.block (.sr 3 [(4, qp 4 0), (12, .agg [li .u64 8, li .u32 16711935])] [(4, some (.cells [li .u64 8, li .u32 16711935])), (4, some (.cells [li .u64 0, li .u32 0]))] (.region0 (.rd 10 [(0, .one (li .u32 (bitsI .and .u32 (bitsI .or .u32 a0 (shlI .u32 a0 8)) 16711935))), (21, .one (li .u32 (bitsI .and .u32 (bitsI .or .u32 a0 (shlI .u32 a0 8)) 16711935))), (20, .one (li .u32 16711935)), (19, qp 4 1), (18, .one (li .u32 (bitsI .or .u32 a0 (shlI .u32 a0 8)))), (17, .one (li .u32 (shlI .u32 a0 8))), (16, .one (li .u64 8)), (15, qp 4 0), (14, .one (li .u32 a0)), (13, .one (li .u32 a0))] [] (.blockN (.thenN (.region0 (.rd 2 [(10, qj 1), (22, qj 1)] [] (.loopN (.succ (.seq (.rg [(0, .one (li .u32 (bitsI .and .u32 (bitsI .or .u32 a0 (shlI .u32 a0 8)) 16711935))), (9, .agg [li .u64 8, li .u32 16711935, li .u64 4, li .u32 252645135, li .u64 2, li .u32 858993459, li .u64 1, li .u32 1431655765]), (10, qj 1)] [] (.rd 1 [(11, qb true)] [] (.thenN (.seq (.condT (by kernel_rfl) (.skip (.thenN (.seq (.block (.sr 3 [(4, qp 4 0), (12, .agg [li .u64 4, li .u32 252645135])] [(4, some (.cells [li .u64 4, li .u32 252645135])), (4, some (.cells [li .u64 0, li .u32 0]))] (.region0 (.rd 10 [(0, .one (li .u32 (bitsI .and .u32 (bitsI .or .u32 (bitsI .and .u32 (bitsI .or .u32 a0 (shlI .u32 a0 8)) 16711935) (shlI .u32 (bitsI .and .u32 (bitsI .or .u32 a0 (shlI .u32 a0 8)) 16711935) 4)) 252645135))), (21, .one (li .u32 (bitsI .and .u32 (bitsI .or .u32 (bitsI .and .u32 (bitsI .or .u32 a0 (shlI .u32 a0 8)) 16711935) (shlI .u32 (bitsI .and .u32 (bitsI .or .u32 a0 (shlI .u32 a0 8)) 16711935) 4)) 252645135))), (20, .one (li .u32 252645135)), (19, qp 4 1), (18, .one (li .u32 (bitsI .or .u32 (bitsI .and .u32 (bitsI .or .u32 a0 (shlI .u32 a0 8)) 16711935) (shlI .u32 (bitsI .and .u32 (bitsI .or .u32 a0 (shlI .u32 a0 8)) 16711935) 4)))), (17, .one (li .u32 (shlI .u32 (bitsI .and .u32 (bitsI .or .u32 a0 (shlI .u32 a0 8)) 16711935) 4))), (16, .one (li .u64 4)), (15, qp 4 0), (14, .one (li .u32 (bitsI .and .u32 (bitsI .or .u32 a0 (shlI .u32 a0 8)) 16711935))), (13, .one (li .u32 (bitsI .and .u32 (bitsI .or .u32 a0 (shlI .u32 a0 8)) 16711935)))] [] (.blockN (.thenN (.region0 (.rd 2 [(10, qj 2), (22, qj 2)] [] (.loopN (.succ (.seq (.rg [(0, .one (li .u32 (bitsI .and .u32 (bitsI .or .u32 (bitsI .and .u32 (bitsI .or .u32 a0 (shlI .u32 a0 8)) 16711935) (shlI .u32 (bitsI .and .u32 (bitsI .or .u32 a0 (shlI .u32 a0 8)) 16711935) 4)) 252645135))), (9, .agg [li .u64 8, li .u32 16711935, li .u64 4, li .u32 252645135, li .u64 2, li .u32 858993459, li .u64 1, li .u32 1431655765]), (10, qj 2)] [] (.rd 1 [(11, qb true)] [] (.thenN (.seq (.condT (by kernel_rfl) (.skip (.thenN (.seq (.block (.sr 3 [(4, qp 4 0), (12, .agg [li .u64 2, li .u32 858993459])] [(4, some (.cells [li .u64 2, li .u32 858993459])), (4, some (.cells [li .u64 0, li .u32 0]))] (.region0 (.rd 10 [(0, .one (li .u32 (bitsI .and .u32 (bitsI .or .u32 (bitsI .and .u32 (bitsI .or .u32 (bitsI .and .u32 (bitsI .or .u32 a0 (shlI .u32 a0 8)) 16711935) (shlI .u32 (bitsI .and .u32 (bitsI .or .u32 a0 (shlI .u32 a0 8)) 16711935) 4)) 252645135) (shlI .u32 (bitsI .and .u32 (bitsI .or .u32 (bitsI .and .u32 (bitsI .or .u32 a0 (shlI .u32 a0 8)) 16711935) (shlI .u32 (bitsI .and .u32 (bitsI .or .u32 a0 (shlI .u32 a0 8)) 16711935) 4)) 252645135) 2)) 858993459))), (21, .one (li .u32 (bitsI .and .u32 (bitsI .or .u32 (bitsI .and .u32 (bitsI .or .u32 (bitsI .and .u32 (bitsI .or .u32 a0 (shlI .u32 a0 8)) 16711935) (shlI .u32 (bitsI .and .u32 (bitsI .or .u32 a0 (shlI .u32 a0 8)) 16711935) 4)) 252645135) (shlI .u32 (bitsI .and .u32 (bitsI .or .u32 (bitsI .and .u32 (bitsI .or .u32 a0 (shlI .u32 a0 8)) 16711935) (shlI .u32 (bitsI .and .u32 (bitsI .or .u32 a0 (shlI .u32 a0 8)) 16711935) 4)) 252645135) 2)) 858993459))), (20, .one (li .u32 858993459)), (19, qp 4 1), (18, .one (li .u32 (bitsI .or .u32 (bitsI .and .u32 (bitsI .or .u32 (bitsI .and .u32 (bitsI .or .u32 a0 (shlI .u32 a0 8)) 16711935) (shlI .u32 (bitsI .and .u32 (bitsI .or .u32 a0 (shlI .u32 a0 8)) 16711935) 4)) 252645135) (shlI .u32 (bitsI .and .u32 (bitsI .or .u32 (bitsI .and .u32 (bitsI .or .u32 a0 (shlI .u32 a0 8)) 16711935) (shlI .u32 (bitsI .and .u32 (bitsI .or .u32 a0 (shlI .u32 a0 8)) 16711935) 4)) 252645135) 2)))), (17, .one (li .u32 (shlI .u32 (bitsI .and .u32 (bitsI .or .u32 (bitsI .and .u32 (bitsI .or .u32 a0 (shlI .u32 a0 8)) 16711935) (shlI .u32 (bitsI .and .u32 (bitsI .or .u32 a0 (shlI .u32 a0 8)) 16711935) 4)) 252645135) 2))), (16, .one (li .u64 2)), (15, qp 4 0), (14, .one (li .u32 (bitsI .and .u32 (bitsI .or .u32 (bitsI .and .u32 (bitsI .or .u32 a0 (shlI .u32 a0 8)) 16711935) (shlI .u32 (bitsI .and .u32 (bitsI .or .u32 a0 (shlI .u32 a0 8)) 16711935) 4)) 252645135))), (13, .one (li .u32 (bitsI .and .u32 (bitsI .or .u32 (bitsI .and .u32 (bitsI .or .u32 a0 (shlI .u32 a0 8)) 16711935) (shlI .u32 (bitsI .and .u32 (bitsI .or .u32 a0 (shlI .u32 a0 8)) 16711935) 4)) 252645135)))] [] (.blockN (.thenN (.region0 (.rd 2 [(10, qj 3), (22, qj 3)] [] (.loopN (.succ (.seq (.rg [(0, .one (li .u32 (bitsI .and .u32 (bitsI .or .u32 (bitsI .and .u32 (bitsI .or .u32 (bitsI .and .u32 (bitsI .or .u32 a0 (shlI .u32 a0 8)) 16711935) (shlI .u32 (bitsI .and .u32 (bitsI .or .u32 a0 (shlI .u32 a0 8)) 16711935) 4)) 252645135) (shlI .u32 (bitsI .and .u32 (bitsI .or .u32 (bitsI .and .u32 (bitsI .or .u32 a0 (shlI .u32 a0 8)) 16711935) (shlI .u32 (bitsI .and .u32 (bitsI .or .u32 a0 (shlI .u32 a0 8)) 16711935) 4)) 252645135) 2)) 858993459))), (9, .agg [li .u64 8, li .u32 16711935, li .u64 4, li .u32 252645135, li .u64 2, li .u32 858993459, li .u64 1, li .u32 1431655765]), (10, qj 3)] [] (.rd 1 [(11, qb true)] [] (.thenN (.seq (.condT (by kernel_rfl) (.skip (.thenN (.seq (.block (.sr 3 [(4, qp 4 0), (12, .agg [li .u64 1, li .u32 1431655765])] [(4, some (.cells [li .u64 1, li .u32 1431655765])), (4, some (.cells [li .u64 0, li .u32 0]))] (.region0 (.rd 10 [(0, .one (li .u32 (bitsI .and .u32 (bitsI .or .u32 (bitsI .and .u32 (bitsI .or .u32 (bitsI .and .u32 (bitsI .or .u32 (bitsI .and .u32 (bitsI .or .u32 a0 (shlI .u32 a0 8)) 16711935) (shlI .u32 (bitsI .and .u32 (bitsI .or .u32 a0 (shlI .u32 a0 8)) 16711935) 4)) 252645135) (shlI .u32 (bitsI .and .u32 (bitsI .or .u32 (bitsI .and .u32 (bitsI .or .u32 a0 (shlI .u32 a0 8)) 16711935) (shlI .u32 (bitsI .and .u32 (bitsI .or .u32 a0 (shlI .u32 a0 8)) 16711935) 4)) 252645135) 2)) 858993459) (shlI .u32 (bitsI .and .u32 (bitsI .or .u32 (bitsI .and .u32 (bitsI .or .u32 (bitsI .and .u32 (bitsI .or .u32 a0 (shlI .u32 a0 8)) 16711935) (shlI .u32 (bitsI .and .u32 (bitsI .or .u32 a0 (shlI .u32 a0 8)) 16711935) 4)) 252645135) (shlI .u32 (bitsI .and .u32 (bitsI .or .u32 (bitsI .and .u32 (bitsI .or .u32 a0 (shlI .u32 a0 8)) 16711935) (shlI .u32 (bitsI .and .u32 (bitsI .or .u32 a0 (shlI .u32 a0 8)) 16711935) 4)) 252645135) 2)) 858993459) 1)) 1431655765))), (21, .one (li .u32 (bitsI .and .u32 (bitsI .or .u32 (bitsI .and .u32 (bitsI .or .u32 (bitsI .and .u32 (bitsI .or .u32 (bitsI .and .u32 (bitsI .or .u32 a0 (shlI .u32 a0 8)) 16711935) (shlI .u32 (bitsI .and .u32 (bitsI .or .u32 a0 (shlI .u32 a0 8)) 16711935) 4)) 252645135) (shlI .u32 (bitsI .and .u32 (bitsI .or .u32 (bitsI .and .u32 (bitsI .or .u32 a0 (shlI .u32 a0 8)) 16711935) (shlI .u32 (bitsI .and .u32 (bitsI .or .u32 a0 (shlI .u32 a0 8)) 16711935) 4)) 252645135) 2)) 858993459) (shlI .u32 (bitsI .and .u32 (bitsI .or .u32 (bitsI .and .u32 (bitsI .or .u32 (bitsI .and .u32 (bitsI .or .u32 a0 (shlI .u32 a0 8)) 16711935) (shlI .u32 (bitsI .and .u32 (bitsI .or .u32 a0 (shlI .u32 a0 8)) 16711935) 4)) 252645135) (shlI .u32 (bitsI .and .u32 (bitsI .or .u32 (bitsI .and .u32 (bitsI .or .u32 a0 (shlI .u32 a0 8)) 16711935) (shlI .u32 (bitsI .and .u32 (bitsI .or .u32 a0 (shlI .u32 a0 8)) 16711935) 4)) 252645135) 2)) 858993459) 1)) 1431655765))), (20, .one (li .u32 1431655765)), (19, qp 4 1), (18, .one (li .u32 (bitsI .or .u32 (bitsI .and .u32 (bitsI .or .u32 (bitsI .and .u32 (bitsI .or .u32 (bitsI .and .u32 (bitsI .or .u32 a0 (shlI .u32 a0 8)) 16711935) (shlI .u32 (bitsI .and .u32 (bitsI .or .u32 a0 (shlI .u32 a0 8)) 16711935) 4)) 252645135) (shlI .u32 (bitsI .and .u32 (bitsI .or .u32 (bitsI .and .u32 (bitsI .or .u32 a0 (shlI .u32 a0 8)) 16711935) (shlI .u32 (bitsI .and .u32 (bitsI .or .u32 a0 (shlI .u32 a0 8)) 16711935) 4)) 252645135) 2)) 858993459) (shlI .u32 (bitsI .and .u32 (bitsI .or .u32 (bitsI .and .u32 (bitsI .or .u32 (bitsI .and .u32 (bitsI .or .u32 a0 (shlI .u32 a0 8)) 16711935) (shlI .u32 (bitsI .and .u32 (bitsI .or .u32 a0 (shlI .u32 a0 8)) 16711935) 4)) 252645135) (shlI .u32 (bitsI .and .u32 (bitsI .or .u32 (bitsI .and .u32 (bitsI .or .u32 a0 (shlI .u32 a0 8)) 16711935) (shlI .u32 (bitsI .and .u32 (bitsI .or .u32 a0 (shlI .u32 a0 8)) 16711935) 4)) 252645135) 2)) 858993459) 1)))), (17, .one (li .u32 (shlI .u32 (bitsI .and .u32 (bitsI .or .u32 (bitsI .and .u32 (bitsI .or .u32 (bitsI .and .u32 (bitsI .or .u32 a0 (shlI .u32 a0 8)) 16711935) (shlI .u32 (bitsI .and .u32 (bitsI .or .u32 a0 (shlI .u32 a0 8)) 16711935) 4)) 252645135) (shlI .u32 (bitsI .and .u32 (bitsI .or .u32 (bitsI .and .u32 (bitsI .or .u32 a0 (shlI .u32 a0 8)) 16711935) (shlI .u32 (bitsI .and .u32 (bitsI .or .u32 a0 (shlI .u32 a0 8)) 16711935) 4)) 252645135) 2)) 858993459) 1))), (16, .one (li .u64 1)), (15, qp 4 0), (14, .one (li .u32 (bitsI .and .u32 (bitsI .or .u32 (bitsI .and .u32 (bitsI .or .u32 (bitsI .and .u32 (bitsI .or .u32 a0 (shlI .u32 a0 8)) 16711935) (shlI .u32 (bitsI .and .u32 (bitsI .or .u32 a0 (shlI .u32 a0 8)) 16711935) 4)) 252645135) (shlI .u32 (bitsI .and .u32 (bitsI .or .u32 (bitsI .and .u32 (bitsI .or .u32 a0 (shlI .u32 a0 8)) 16711935) (shlI .u32 (bitsI .and .u32 (bitsI .or .u32 a0 (shlI .u32 a0 8)) 16711935) 4)) 252645135) 2)) 858993459))), (13, .one (li .u32 (bitsI .and .u32 (bitsI .or .u32 (bitsI .and .u32 (bitsI .or .u32 (bitsI .and .u32 (bitsI .or .u32 a0 (shlI .u32 a0 8)) 16711935) (shlI .u32 (bitsI .and .u32 (bitsI .or .u32 a0 (shlI .u32 a0 8)) 16711935) 4)) 252645135) (shlI .u32 (bitsI .and .u32 (bitsI .or .u32 (bitsI .and .u32 (bitsI .or .u32 a0 (shlI .u32 a0 8)) 16711935) (shlI .u32 (bitsI .and .u32 (bitsI .or .u32 a0 (shlI .u32 a0 8)) 16711935) 4)) 252645135) 2)) 858993459)))] [] (.blockN (.thenN (.region0 (.rd 2 [(10, qj 4), (22, qj 4)] [] (.loopN (.succ (.seq (.rg [(0, .one (li .u32 (bitsI .and .u32 (bitsI .or .u32 (bitsI .and .u32 (bitsI .or .u32 (bitsI .and .u32 (bitsI .or .u32 (bitsI .and .u32 (bitsI .or .u32 a0 (shlI .u32 a0 8)) 16711935) (shlI .u32 (bitsI .and .u32 (bitsI .or .u32 a0 (shlI .u32 a0 8)) 16711935) 4)) 252645135) (shlI .u32 (bitsI .and .u32 (bitsI .or .u32 (bitsI .and .u32 (bitsI .or .u32 a0 (shlI .u32 a0 8)) 16711935) (shlI .u32 (bitsI .and .u32 (bitsI .or .u32 a0 (shlI .u32 a0 8)) 16711935) 4)) 252645135) 2)) 858993459) (shlI .u32 (bitsI .and .u32 (bitsI .or .u32 (bitsI .and .u32 (bitsI .or .u32 (bitsI .and .u32 (bitsI .or .u32 a0 (shlI .u32 a0 8)) 16711935) (shlI .u32 (bitsI .and .u32 (bitsI .or .u32 a0 (shlI .u32 a0 8)) 16711935) 4)) 252645135) (shlI .u32 (bitsI .and .u32 (bitsI .or .u32 (bitsI .and .u32 (bitsI .or .u32 a0 (shlI .u32 a0 8)) 16711935) (shlI .u32 (bitsI .and .u32 (bitsI .or .u32 a0 (shlI .u32 a0 8)) 16711935) 4)) 252645135) 2)) 858993459) 1)) 1431655765))), (9, .agg [li .u64 8, li .u32 16711935, li .u64 4, li .u32 252645135, li .u64 2, li .u32 858993459, li .u64 1, li .u32 1431655765]), (10, qj 4)] [] (.rd 1 [(11, qb false)] [] (.thenN (.seq (.condF (by kernel_rfl) (.exit (.thenX (.loopX (.blockX (.thenN (.sr 2 [(2, .one (li .u32 (bitsI .and .u32 (bitsI .or .u32 (bitsI .and .u32 (bitsI .or .u32 (bitsI .and .u32 (bitsI .or .u32 (bitsI .and .u32 (bitsI .or .u32 a0 (shlI .u32 a0 8)) 16711935) (shlI .u32 (bitsI .and .u32 (bitsI .or .u32 a0 (shlI .u32 a0 8)) 16711935) 4)) 252645135) (shlI .u32 (bitsI .and .u32 (bitsI .or .u32 (bitsI .and .u32 (bitsI .or .u32 a0 (shlI .u32 a0 8)) 16711935) (shlI .u32 (bitsI .and .u32 (bitsI .or .u32 a0 (shlI .u32 a0 8)) 16711935) 4)) 252645135) 2)) 858993459) (shlI .u32 (bitsI .and .u32 (bitsI .or .u32 (bitsI .and .u32 (bitsI .or .u32 (bitsI .and .u32 (bitsI .or .u32 a0 (shlI .u32 a0 8)) 16711935) (shlI .u32 (bitsI .and .u32 (bitsI .or .u32 a0 (shlI .u32 a0 8)) 16711935) 4)) 252645135) (shlI .u32 (bitsI .and .u32 (bitsI .or .u32 (bitsI .and .u32 (bitsI .or .u32 a0 (shlI .u32 a0 8)) 16711935) (shlI .u32 (bitsI .and .u32 (bitsI .or .u32 a0 (shlI .u32 a0 8)) 16711935) 4)) 252645135) 2)) 858993459) 1)) 1431655765))), (23, .one (li .u32 (bitsI .and .u32 (bitsI .or .u32 (bitsI .and .u32 (bitsI .or .u32 (bitsI .and .u32 (bitsI .or .u32 (bitsI .and .u32 (bitsI .or .u32 a0 (shlI .u32 a0 8)) 16711935) (shlI .u32 (bitsI .and .u32 (bitsI .or .u32 a0 (shlI .u32 a0 8)) 16711935) 4)) 252645135) (shlI .u32 (bitsI .and .u32 (bitsI .or .u32 (bitsI .and .u32 (bitsI .or .u32 a0 (shlI .u32 a0 8)) 16711935) (shlI .u32 (bitsI .and .u32 (bitsI .or .u32 a0 (shlI .u32 a0 8)) 16711935) 4)) 252645135) 2)) 858993459) (shlI .u32 (bitsI .and .u32 (bitsI .or .u32 (bitsI .and .u32 (bitsI .or .u32 (bitsI .and .u32 (bitsI .or .u32 a0 (shlI .u32 a0 8)) 16711935) (shlI .u32 (bitsI .and .u32 (bitsI .or .u32 a0 (shlI .u32 a0 8)) 16711935) 4)) 252645135) (shlI .u32 (bitsI .and .u32 (bitsI .or .u32 (bitsI .and .u32 (bitsI .or .u32 a0 (shlI .u32 a0 8)) 16711935) (shlI .u32 (bitsI .and .u32 (bitsI .or .u32 a0 (shlI .u32 a0 8)) 16711935) 4)) 252645135) 2)) 858993459) 1)) 1431655765)))] [] (.ret .fn))))))))))))))))))))))))))))))))))))))))))))))))))))))))))))))))))))))))))))))))))))))))))))))


-- 90: vedette/morton.Weave
def F90_e : Int → PV × List Ob := fun r => (.one (li .u32 r), [])
def F90 (n : Nat) (a0 : Int) (a1 : Int) : Option Int :=
  (F94 n (IntKind.wrap .u32 a0)).bind fun (r1 : Int) =>
  (F94 n (IntKind.wrap .u32 a1)).bind fun (r2 : Int) =>
  some (bitsI .or .u32 r1 (shlI .u32 r2 1))
theorem F90_ok (n : Nat) (a0 : Int) (a1 : Int) : ∀ r, F90 n a0 a1 = some r → D 90 [.one (li .u16 a0), .one (li .u16 a1)] [] = some (F90_e r) := by
  refine fn_to (D := D) (n := n + 8) (nt := 13) (rs := pc90_r) (c := p90c5) (L := [(0, .one (li .u16 a0)), (1, .one (li .u16 a1))]) (M := []) (k := 0) rfl rfl rfl rfl rfl rfl rfl ?_
  unfold F90
  refine Sim.sr 1 [(4, .one (li .u32 0))] [] (.st 2 [(6, .one (li .u32 (iw .u32 a0))), (5, .one (li .u16 a0))] [] (.cl 7 true [[]] 94 [6] none (fun r1 => .one (li .u32 r1)) [.one (li .u32 (iw .u32 a0))] (F94_ok n (iw .u32 a0)) (fun r1 => ?_)))
  refine SimI.rn 2 [(9, .one (li .u32 (iw .u32 a1))), (8, .one (li .u16 a1))] [] (.cl 10 true [[]] 94 [9] none (fun r2 => .one (li .u32 r2)) [.one (li .u32 (iw .u32 a1))] (F94_ok n (iw .u32 a1)) (fun r2 => ?_))
  exact SimI.rd 3 [(4, .one (li .u32 (bitsI .or .u32 r1 (shlI .u32 r2 1)))), (12, .one (li .u32 (bitsI .or .u32 r1 (shlI .u32 r2 1)))), (11, .one (li .u32 (shlI .u32 r2 1)))] [] (.thenN (.ret .fn))


-- 79: vedette/cells.at
def F79_e : Int → PV × List Ob := fun r => (.one (li .i64 r), [])
def F79 (n : Nat) (a0 : Int) (a1 : Int) : Option Int :=
  (F90 n (IntKind.wrap .u16 a0) (IntKind.wrap .u16 a1)).bind fun (r1 : Int) =>
  some (IntKind.wrap .i64 r1)
theorem F79_ok (n : Nat) (a0 : Int) (a1 : Int) : ∀ r, F79 n a0 a1 = some r → D 79 [.one (li .i64 a0), .one (li .i64 a1)] [] = some (F79_e r) := by
  refine fn_to (D := D) (n := n + 8) (nt := 11) (rs := pc79_r) (c := p79c5) (L := [(0, qj a0), (1, qj a1)]) (M := []) (k := 0) rfl rfl rfl rfl rfl rfl rfl ?_
  unfold F79
  refine Sim.sr 1 [(4, qj 0)] [] (.st 4 [(8, .one (li .u16 (iw .u16 a1))), (7, qj a1), (6, .one (li .u16 (iw .u16 a0))), (5, qj a0)] [] (.cl 9 true [[], []] 90 [6, 8] none (fun r1 => .one (li .u32 r1)) [.one (li .u16 (iw .u16 a0)), .one (li .u16 (iw .u16 a1))] (F90_ok n (iw .u16 a0) (iw .u16 a1)) (fun r1 => ?_)))
  exact SimI.rd 2 [(4, qj (iw .i64 r1)), (10, qj (iw .i64 r1))] [] (.thenN (.ret .fn))


-- 64: vedette/cells.Of
def F64_e : (Int × Int) → PV × List Ob := fun r => (.tup [.one (li .i64 r.1), .one (li .i64 r.2)], [])
def F64 (n : Nat) (a0 : Point) : Option (Int × Int) :=
  (F78 n a0).bind fun (r1 : Bool) =>
  if !(r1) then
    some (0, 14)
  else
    (F79 n (IntKind.wrap .i64 (Int.tdiv a0.X 16)) (IntKind.wrap .i64 (Int.tdiv a0.Y 16))).bind fun (r2 : Int) =>
    some (r2, 0)
theorem F64_ok (n : Nat) (a0 : Point) : ∀ r, F64 n a0 = some r → D 64 [.agg [li .i64 a0.X, li .i64 a0.Y]] [] = some (F64_e r) := by
  refine fn_to (D := D) (n := n + 8) (nt := 14) (rs := pc64_r) (c := p64c13) (L := [(0, .agg [lj a0.X, lj a0.Y])]) (M := []) (k := 0) rfl rfl rfl rfl rfl rfl rfl ?_
  unfold F64
  refine Sim.sr 3 [(3, qj 0), (2, qj 0), (1, qp 1 0)] [(1, some (.cells [lj a0.X, lj a0.Y]))] (.seq (.st 1 [(4, .agg [lj a0.X, lj a0.Y])] [] (.cl 5 true [[]] 78 [4] none (fun r1 => qb r1) [.agg [lj a0.X, lj a0.Y]] (F78_ok n a0) (fun r1 => ?_))))
  refine SimI.rd 1 [(6, qb (!(r1)))] [] (.thenN (.cond (!(r1)) (by kernel_rfl) ?_ ?_))
  · exact Sim.sr 2 [(3, qj 14), (2, qj 0)] [] (.ret (.thenR .fn))
  · refine Sim.skip (.thenN (.st 6 [(12, qj (iw .i64 (Int.tdiv a0.Y 16))), (11, qj a0.Y), (10, qp 1 1), (9, qj (iw .i64 (Int.tdiv a0.X 16))), (8, qj a0.X), (7, qp 1 0)] [] (.cl 13 true [[], []] 79 [9, 12] none (fun r2 => qj r2) [qj (iw .i64 (Int.tdiv a0.X 16)), qj (iw .i64 (Int.tdiv a0.Y 16))] (F79_ok n (iw .i64 (Int.tdiv a0.X 16)) (iw .i64 (Int.tdiv a0.Y 16))) (fun r2 => ?_))))
    exact SimI.rd 2 [(3, qj 0), (2, qj r2)] [] (.thenN (.ret .fn))


-- 66: vedette/note.isThings$1
def F66s0_e (a0 : Hand) (a1 : Int) : Bool → PV × List Ob := fun r => (.one (lb r), [.cells [li .i64 a1]])
def F66s0 (n : Nat) (a0 : Hand) (a1 : Int) : Option Bool :=
  some (a0.Cell == a1)
theorem F66s0_ok (n : Nat) (a0 : Hand) (a1 : Int) : ∀ r, F66s0 n a0 a1 = some r → D 66 [.agg [li .i64 a0.Cell, li .i64 a0.To], .one (.ptr 1000000 0)] [.cells [li .i64 a1]] = some ((F66s0_e a0 a1) r) := by
  refine fn_to (D := D) (n := n + 8) (nt := 8) (rs := pc66_r) (c := p66c5) (L := [(0, .agg [lj a0.Cell, lj a0.To]), (1, qp 1000000 0)]) (M := [(1000000, some (.cells [lj a1]))]) (k := 1) rfl rfl rfl rfl rfl rfl rfl ?_
  unfold F66s0
  exact Sim.sr 2 [(3, qb false), (2, qp 2 0)] [(2, some (.cells [lj a0.Cell, lj a0.To]))] (.sr 5 [(3, qb (a0.Cell == a1)), (7, qb (a0.Cell == a1)), (6, qj a1), (5, qj a0.Cell), (4, qp 2 0)] [] (.ret .fn))


-- 80: slices.IndexFunc[[]vedette/api.Hand,vedette/api.Hand]
def F80s0_e (a0 : (List Hand)) (a1 : Int) : Int → PV × List Ob := fun r => (.one (li .i64 r), [.cells [li .i64 a1]])
def F80s0_l4 (n : Nat) (a0 : (List Hand)) (a1 : Int) : Nat → Int → Option Int
  | 0, _ => none
  | m + 1, i3 =>
    if decide (i3 < ((a0).length : Int)) then
      (ix a0 i3).bind fun (x5 : Hand) =>
      (F66s0 n x5 a1).bind fun (r6 : Bool) =>
      if r6 then
        some i3
      else
        (F80s0_l4 n a0 a1 m) (IntKind.wrap .i64 (i3 + 1))
    else
      some (-1)
theorem F80s0_l4_ok (n : Nat) (a0 : (List Hand)) (a1 : Int) : ∀ (m : Nat) (i3 : Int), SimL Try.prog D (n + 8) m p80c20 [(0, .one (vw Hand.cod a0)), (1, .one (.fn 66 [.ptr 1000000 0])), (7, qj ((a0).length : Int)), (8, qj i3)] [(1000000, some (.cells [lj a1]))] (F80s0_l4 n a0 a1 m i3) (QB 0 (QT Try.prog D (n + 8) p80c26 (QF false pc80_r 1 (F80s0_e a0 a1)))) := by
  intro m_l4
  induction m_l4 with
  | zero => intro i3; exact SimL.zero'  rfl
  | succ m_l4 ih_l4 =>
    intro i3
    refine SimL.succ ?_
    unfold F80s0_l4
    refine Sim.seq (.rg [(0, .one (vw Hand.cod a0)), (1, .one (.fn 66 [.ptr 1000000 0])), (7, qj ((a0).length : Int)), (8, qj i3)] [(1000000, some (.cells [lj a1]))] (.rd 1 [(9, qb (decide (i3 < ((a0).length : Int))))] [] (.thenN (.seq (.cond (decide (i3 < ((a0).length : Int))) (by kernel_rfl) ?_ ?_)))))
    · refine Sim.skip (.thenN (.seq (.block (.sr 2 [(5, qj i3), (10, qj i3)] [] (.st 3 [(13, qj i3), (12, .one (vw Hand.cod a0)), (11, .one (.fn 66 [.ptr 1000000 0]))] [] (.bind (og := ix a0 i3) ⟨some 14, POp.iaddrS 2 (Operand.tmp 12) (Operand.tmp 13), none, []⟩ (fun x5 => [(14, .one (.eptr (Hand.cod.enc x5) 0))]) (fun x5 => []) (by kernel_rfl) (fun x5 hr => pOp_eff (by kernel_rfl) (by kernel_rfl) (eff_idx (c := Hand.cod) (l := a0) (k := .i64) (n := i3) (by kernel_rfl) (by kernel_rfl) (by kernel_rfl) hr)) (fun x5 => ?_)))))))
      refine SimI.rn 1 [(15, .agg [lj x5.Cell, lj x5.To])] [] (.bind (og := F66s0 n x5 a1) ⟨some 16, POp.gcallv false false [300000, 300001, 300002, 300003, 300004, 300005, 300006, 300007, 1000000] [[]] (Operand.tmp 11) [15], none, []⟩ (fun r6 => [(16, qb r6)]) (fun r6 => [(1000000, some (.cells [lj a1]))]) (by kernel_rfl) (fun r6 hr => pOp_eff (by kernel_rfl) (by kernel_rfl) (eff_gcallv (ks := [1000000]) (rks := []) (new := []) (ARGS := [.agg [lj x5.Cell, lj x5.To], qp 1000000 0]) (args1 := [.agg [lj x5.Cell, lj x5.To], qp 1000000 0]) (args2 := [.agg [lj x5.Cell, lj x5.To], qp 1000000 0]) (os := [.cells [lj a1]]) (os' := [.cells [lj a1]]) (os1 := [.cells [lj a1]]) (res := qb r6) (res1 := qb r6) (r := qb r6) (N := [(1000000, some (.cells [lj a1]))]) (caps := [.ptr 1000000 0]) (by kernel_rfl) (by kernel_rfl) (readA_ow (readA_agg (by kernel_rfl) (readA_keep (by kernel_rfl) (readA_nil)))) (by kernel_rfl) (by kernel_rfl) (by kernel_rfl) (by kernel_rfl) (F66s0_ok n x5 a1 r6 hr) (by kernel_rfl) (by kernel_rfl) (by kernel_rfl) rfl (by kernel_rfl) (by kernel_rfl) (by kernel_rfl))) (fun r6 => ?_))
      refine SimI.dn (.thenN (.cond r6 (by kernel_rfl) ?_ ?_))
      · exact Sim.sr 2 [(4, qj i3), (17, qj i3)] [] (.ret (.blockR (.thenR (.loopR (.blockR (.thenR .fn))))))
      · refine Sim.skip (.blockN (.thenN (.region0 (.rd 2 [(8, qj (iw .i64 (i3 + 1))), (18, qj (iw .i64 (i3 + 1)))] [] (.loopN (.pr [0, 1, 7, 8] [1000000] [] [(0, .one (vw Hand.cod a0)), (1, .one (.fn 66 [.ptr 1000000 0])), (7, qj ((a0).length : Int)), (8, qj (iw .i64 (i3 + 1)))] [(1000000, some (.cells [lj a1]))] ?_))))))
        exact ih_l4 (iw .i64 (i3 + 1))
    · exact Sim.exit (.thenX (.loopX (.blockX (.thenN (.sr 1 [(4, qj (-1))] [] (.ret .fn))))))

def F80s0 (n : Nat) (a0 : (List Hand)) (a1 : Int) : Option Int :=
  F80s0_l4 n a0 a1 (n + 8) 0
theorem F80s0_ok (n : Nat) (a0 : (List Hand)) (a1 : Int) : ∀ r, F80s0 n a0 a1 = some r → D 80 [.one (vw Hand.cod a0), .one (.fn 66 [.ptr 1000000 0])] [.cells [li .i64 a1]] = some ((F80s0_e a0 a1) r) := by
  refine fn_to (D := D) (n := n + 8) (nt := 19) (rs := pc80_r) (c := p80c28) (L := [(0, .one (vw Hand.cod a0)), (1, .one (.fn 66 [.ptr 1000000 0]))]) (M := [(1000000, some (.cells [lj a1]))]) (k := 1) rfl rfl rfl rfl rfl rfl rfl ?_
  unfold F80s0
  refine Sim.sr 1 [(4, qj 0)] [] (.seq (.sr 3 [(8, qj 0), (7, qj ((a0).length : Int)), (6, .one (vw Hand.cod a0))] [] (.block (.loop (.pr [0, 1, 7, 8] [1000000] [] [(0, .one (vw Hand.cod a0)), (1, .one (.fn 66 [.ptr 1000000 0])), (7, qj ((a0).length : Int)), (8, qj 0)] [(1000000, some (.cells [lj a1]))] ?_)))))
  exact F80s0_l4_ok n a0 a1 (n + 8) 0


-- 65: slices.ContainsFunc[[]vedette/api.Hand,vedette/api.Hand]
def F65s0_e (a0 : (List Hand)) (a1 : Int) : Bool → PV × List Ob := fun r => (.one (lb r), [.cells [li .i64 a1]])
def F65s0 (n : Nat) (a0 : (List Hand)) (a1 : Int) : Option Bool :=
  (F80s0 n a0 a1).bind fun (r1 : Int) =>
  some (decide ((0 : Int) ≤ r1))
theorem F65s0_ok (n : Nat) (a0 : (List Hand)) (a1 : Int) : ∀ r, F65s0 n a0 a1 = some r → D 65 [.one (vw Hand.cod a0), .one (.fn 66 [.ptr 1000000 0])] [.cells [li .i64 a1]] = some ((F65s0_e a0 a1) r) := by
  refine fn_to (D := D) (n := n + 8) (nt := 9) (rs := pc65_r) (c := p65c5) (L := [(0, .one (vw Hand.cod a0)), (1, .one (.fn 66 [.ptr 1000000 0]))]) (M := [(1000000, some (.cells [lj a1]))]) (k := 1) rfl rfl rfl rfl rfl rfl rfl ?_
  unfold F65s0
  refine Sim.sr 1 [(4, qb false)] [] (.st 2 [(6, .one (.fn 66 [.ptr 1000000 0])), (5, .one (vw Hand.cod a0))] [] (.bind (og := F80s0 n a0 a1) ⟨some 7, POp.gcall false false [300000, 300001, 300002, 300003, 300004, 300005, 300006, 300007, 1000000] [[(0, 2)], []] 80 [5, 6], none, []⟩ (fun r1 => [(7, qj r1)]) (fun r1 => [(1000000, some (.cells [lj a1]))]) (by kernel_rfl) (fun r1 hr => pOp_eff (by kernel_rfl) (by kernel_rfl) (eff_gcall (ks := [1000000]) (rks := []) (new := []) (ARGS := [.one (vw Hand.cod a0), .one (.fn 66 [.ptr 1000000 0])]) (args1 := [.one (vw Hand.cod a0), .one (.fn 66 [.ptr 1000000 0])]) (args2 := [.one (vw Hand.cod a0), .one (.fn 66 [.ptr 1000000 0])]) (os := [.cells [lj a1]]) (os' := [.cells [lj a1]]) (os1 := [.cells [lj a1]]) (res := qj r1) (res1 := qj r1) (r := qj r1) (N := [(1000000, some (.cells [lj a1]))]) (by kernel_rfl) (readA_ow (readA_keep (by kernel_rfl) (readA_keep (by kernel_rfl) (readA_nil)))) (by kernel_rfl) (by kernel_rfl) (by kernel_rfl) (by kernel_rfl) (F80s0_ok n a0 a1 r1 hr) (by kernel_rfl) (by kernel_rfl) (by kernel_rfl) rfl (by kernel_rfl) (by kernel_rfl) (by kernel_rfl))) (fun r1 => ?_)))
  exact SimI.rd 2 [(4, qb (decide ((0 : Int) ≤ r1))), (8, qb (decide ((0 : Int) ≤ r1)))] [] (.thenN (.ret .fn))


-- 82: vedette/thing.Is$1
def F82_e : Bool → PV × List Ob := fun r => (.one (lb r), [])
def F82 (n : Nat) (a0 : Field) : Option Bool :=
  (F60 n a0).bind fun (r1 : Bool) =>
  some (!(r1))
theorem F82_ok (n : Nat) (a0 : Field) : ∀ r, F82 n a0 = some r → D 82 [.agg [li .i64 a0.N, ls a0.Text]] [] = some (F82_e r) := by
  refine fn_to (D := D) (n := n + 8) (nt := 6) (rs := pc82_r) (c := p82c5) (L := [(0, .agg [lj a0.N, ls a0.Text])]) (M := []) (k := 0) rfl rfl rfl rfl rfl rfl rfl ?_
  unfold F82
  refine Sim.sr 2 [(2, qb false), (1, qp 1 0)] [(1, some (.cells [lj a0.N, ls a0.Text]))] (.st 1 [(3, .agg [lj a0.N, ls a0.Text])] [] (.cl 4 true [[]] 60 [3] none (fun r1 => qb r1) [.agg [lj a0.N, ls a0.Text]] (F60_ok n a0) (fun r1 => ?_)))
  exact SimI.rd 2 [(2, qb (!(r1))), (5, qb (!(r1)))] [] (.thenN (.ret .fn))


-- 91: slices.IndexFunc[[]vedette/api.Field,vedette/api.Field]
def F91s0_e (a0 : (List Field)) : Int → PV × List Ob := fun r => (.one (li .i64 r), [])
def F91s0_l4 (n : Nat) (a0 : (List Field)) : Nat → Int → Option Int
  | 0, _ => none
  | m + 1, i3 =>
    if decide (i3 < ((a0).length : Int)) then
      (ix a0 i3).bind fun (x5 : Field) =>
      (F82 n x5).bind fun (r6 : Bool) =>
      if r6 then
        some i3
      else
        (F91s0_l4 n a0 m) (IntKind.wrap .i64 (i3 + 1))
    else
      some (-1)
theorem F91s0_l4_ok (n : Nat) (a0 : (List Field)) : ∀ (m : Nat) (i3 : Int), SimL Try.prog D (n + 8) m p91c20 [(0, .one (vw Field.cod a0)), (1, .one (.val (.func (.func 82) #[] #[]))), (7, qj ((a0).length : Int)), (8, qj i3)] [] (F91s0_l4 n a0 m i3) (QB 0 (QT Try.prog D (n + 8) p91c26 (QF false pc91_r 0 (F91s0_e a0)))) := by
  intro m_l4
  induction m_l4 with
  | zero => intro i3; exact SimL.zero'  rfl
  | succ m_l4 ih_l4 =>
    intro i3
    refine SimL.succ ?_
    unfold F91s0_l4
    refine Sim.seq (.rg [(0, .one (vw Field.cod a0)), (1, .one (.val (.func (.func 82) #[] #[]))), (7, qj ((a0).length : Int)), (8, qj i3)] [] (.rd 1 [(9, qb (decide (i3 < ((a0).length : Int))))] [] (.thenN (.seq (.cond (decide (i3 < ((a0).length : Int))) (by kernel_rfl) ?_ ?_)))))
    · refine Sim.skip (.thenN (.seq (.block (.sr 2 [(5, qj i3), (10, qj i3)] [] (.st 3 [(13, qj i3), (12, .one (vw Field.cod a0)), (11, .one (.val (.func (.func 82) #[] #[])))] [] (.bind (og := ix a0 i3) ⟨some 14, POp.iaddrS 2 (Operand.tmp 12) (Operand.tmp 13), none, []⟩ (fun x5 => [(14, .one (.eptr (Field.cod.enc x5) 0))]) (fun x5 => []) (by kernel_rfl) (fun x5 hr => pOp_eff (by kernel_rfl) (by kernel_rfl) (eff_idx (c := Field.cod) (l := a0) (k := .i64) (n := i3) (by kernel_rfl) (by kernel_rfl) (by kernel_rfl) hr)) (fun x5 => ?_)))))))
      refine SimI.rn 1 [(15, .agg [lj x5.N, ls x5.Text])] [] (.bind (og := F82 n x5) ⟨some 16, POp.callv true [[]] (Operand.tmp 11) [15], none, []⟩ (fun r6 => [(16, qb r6)]) (fun r6 => []) (by kernel_rfl) (fun r6 hr => pOp_eff (by kernel_rfl) (by kernel_rfl) (eff_callvv (by kernel_rfl) (ARGS := [.agg [lj x5.N, ls x5.Text]]) (by kernel_rfl) (args_clean (by kernel_rfl) args_nil) (F82_ok n x5 r6 hr) (by kernel_rfl))) (fun r6 => ?_))
      refine SimI.dn (.thenN (.cond r6 (by kernel_rfl) ?_ ?_))
      · exact Sim.sr 2 [(4, qj i3), (17, qj i3)] [] (.ret (.blockR (.thenR (.loopR (.blockR (.thenR .fn))))))
      · refine Sim.skip (.blockN (.thenN (.region0 (.rd 2 [(8, qj (iw .i64 (i3 + 1))), (18, qj (iw .i64 (i3 + 1)))] [] (.loopN (.pr [0, 1, 7, 8] [] [] [(0, .one (vw Field.cod a0)), (1, .one (.val (.func (.func 82) #[] #[]))), (7, qj ((a0).length : Int)), (8, qj (iw .i64 (i3 + 1)))] [] ?_))))))
        exact ih_l4 (iw .i64 (i3 + 1))
    · exact Sim.exit (.thenX (.loopX (.blockX (.thenN (.sr 1 [(4, qj (-1))] [] (.ret .fn))))))

def F91s0 (n : Nat) (a0 : (List Field)) : Option Int :=
  F91s0_l4 n a0 (n + 8) 0
theorem F91s0_ok (n : Nat) (a0 : (List Field)) : ∀ r, F91s0 n a0 = some r → D 91 [.one (vw Field.cod a0), .one (.val (.func (.func 82) #[] #[]))] [] = some ((F91s0_e a0) r) := by
  refine fn_to (D := D) (n := n + 8) (nt := 19) (rs := pc91_r) (c := p91c28) (L := [(0, .one (vw Field.cod a0)), (1, .one (.val (.func (.func 82) #[] #[])))]) (M := []) (k := 0) rfl rfl rfl rfl rfl rfl rfl ?_
  unfold F91s0
  refine Sim.sr 1 [(4, qj 0)] [] (.seq (.sr 3 [(8, qj 0), (7, qj ((a0).length : Int)), (6, .one (vw Field.cod a0))] [] (.block (.loop (.pr [0, 1, 7, 8] [] [] [(0, .one (vw Field.cod a0)), (1, .one (.val (.func (.func 82) #[] #[]))), (7, qj ((a0).length : Int)), (8, qj 0)] [] ?_)))))
  exact F91s0_l4_ok n a0 (n + 8) 0


-- 81: slices.ContainsFunc[[]vedette/api.Field,vedette/api.Field]
def F81s0_e (a0 : (List Field)) : Bool → PV × List Ob := fun r => (.one (lb r), [])
def F81s0 (n : Nat) (a0 : (List Field)) : Option Bool :=
  (F91s0 n a0).bind fun (r1 : Int) =>
  some (decide ((0 : Int) ≤ r1))
theorem F81s0_ok (n : Nat) (a0 : (List Field)) : ∀ r, F81s0 n a0 = some r → D 81 [.one (vw Field.cod a0), .one (.val (.func (.func 82) #[] #[]))] [] = some ((F81s0_e a0) r) := by
  refine fn_to (D := D) (n := n + 8) (nt := 9) (rs := pc81_r) (c := p81c5) (L := [(0, .one (vw Field.cod a0)), (1, .one (.val (.func (.func 82) #[] #[])))]) (M := []) (k := 0) rfl rfl rfl rfl rfl rfl rfl ?_
  unfold F81s0
  refine Sim.sr 1 [(4, qb false)] [] (.st 2 [(6, .one (.val (.func (.func 82) #[] #[]))), (5, .one (vw Field.cod a0))] [] (.bind (og := F91s0 n a0) ⟨some 7, POp.gcall false false [300000, 300001, 300002, 300003, 300004, 300005, 300006, 300007] [[(0, 2)], []] 91 [5, 6], none, []⟩ (fun r1 => [(7, qj r1)]) (fun r1 => []) (by kernel_rfl) (fun r1 hr => pOp_eff (by kernel_rfl) (by kernel_rfl) (eff_gcall (ks := []) (rks := []) (new := []) (ARGS := [.one (vw Field.cod a0), .one (.val (.func (.func 82) #[] #[]))]) (args1 := [.one (vw Field.cod a0), .one (.val (.func (.func 82) #[] #[]))]) (args2 := [.one (vw Field.cod a0), .one (.val (.func (.func 82) #[] #[]))]) (os := []) (os' := []) (os1 := []) (res := qj r1) (res1 := qj r1) (r := qj r1) (N := []) (by kernel_rfl) (readA_ow (readA_keep (by kernel_rfl) (readA_keep (by kernel_rfl) (readA_nil)))) (by kernel_rfl) (by kernel_rfl) (by kernel_rfl) (by kernel_rfl) (F91s0_ok n a0 r1 hr) (by kernel_rfl) (by kernel_rfl) (by kernel_rfl) rfl (by kernel_rfl) (by kernel_rfl) (by kernel_rfl))) (fun r1 => ?_)))
  exact SimI.rd 2 [(4, qb (decide ((0 : Int) ≤ r1))), (8, qb (decide ((0 : Int) ≤ r1)))] [] (.thenN (.ret .fn))


-- 67: vedette/thing.Is
def F67_e : Bool → PV × List Ob := fun r => (.one (lb r), [])
def F67 (n : Nat) (a0 : Thing) : Option Bool :=
  if decide ((0 : Int) ≤ a0.ID) then
    if decide (a0.ID ≤ 1000000) then
      (F78 n a0.At).bind fun (r1 : Bool) =>
      if r1 then
        (F81s0 n [a0.F.a0, a0.F.a1, a0.F.a2, a0.F.a3]).bind fun (r2 : Bool) =>
        some (!(r2))
      else
        some false
    else
      some false
  else
    some false
theorem F67_ok (n : Nat) (a0 : Thing) : ∀ r, F67 n a0 = some r → D 67 [.agg (Thing.cells a0)] [] = some (F67_e r) := by
  refine fn_to (D := D) (n := n + 8) (nt := 22) (rs := pc67_r) (c := p67c5) (L := [(0, .agg (Thing.cells a0))]) (M := []) (k := 0) rfl rfl rfl rfl rfl rfl rfl ?_
  unfold F67
  refine Sim.sr 2 [(2, qb false), (1, qp 1 0)] [(1, some (.cells (Thing.cells a0)))] (.st 4 [(6, qb (decide ((0 : Int) ≤ a0.ID))), (5, qb (decide ((0 : Int) ≤ a0.ID))), (4, qj a0.ID), (3, qp 1 0)] [] (.split 6 (decide ((0 : Int) ≤ a0.ID)) (by kernel_rfl) ?_ ?_))
  · refine SimI.rn 5 [(11, qb (decide (a0.ID ≤ 1000000))), (10, qb (decide (a0.ID ≤ 1000000))), (9, qb (decide (a0.ID ≤ 1000000))), (8, qj a0.ID), (7, qp 1 0)] [] (.split 11 (decide (a0.ID ≤ 1000000)) (by kernel_rfl) ?_ ?_)
    · refine SimI.rn 2 [(13, .agg [lj a0.At.X, lj a0.At.Y]), (12, qp 1 1)] [] (.cl 14 true [[]] 78 [13] (some (11, true)) (fun r1 => qb r1) [.agg [lj a0.At.X, lj a0.At.Y]] (F78_ok n a0.At) (fun r1 => ?_))
      refine SimI.rn 2 [(16, qb r1), (15, qb r1)] [] (.split 16 r1 (by kernel_rfl) ?_ ?_)
      · refine SimI.rn 2 [(18, .one (.csl 1 2 3 4)), (17, qp 1 3)] [] (.bind (og := F81s0 n [a0.F.a0, a0.F.a1, a0.F.a2, a0.F.a3]) ⟨some 19, POp.gcall false false [1, 300000, 300001, 300002, 300003, 300004, 300005, 300006, 300007] [[(0, 2)], []] 81 [18, Operand.func 82], some (16, true), []⟩ (fun r2 => [(19, qb r2)]) (fun r2 => []) (by kernel_rfl) (fun r2 hr => pOp_eff (by kernel_rfl) (by kernel_rfl) (eff_gcall (ks := []) (rks := [1]) (new := []) (ARGS := [.one (.csl 1 2 3 4), .one (.val (.func (.func 82) #[] #[]))]) (args1 := [.one (vw Field.cod [a0.F.a0, a0.F.a1, a0.F.a2, a0.F.a3]), .one (.val (.func (.func 82) #[] #[]))]) (args2 := [.one (vw Field.cod [a0.F.a0, a0.F.a1, a0.F.a2, a0.F.a3]), .one (.val (.func (.func 82) #[] #[]))]) (os := []) (os' := []) (os1 := []) (res := qb r2) (res1 := qb r2) (r := qb r2) (N := []) (by kernel_rfl) (readA_ow (readA_csl (c := Field.cod) (k := 1) (off := 3) (cs := (Thing.cells a0)) (l := [a0.F.a0, a0.F.a1, a0.F.a2, a0.F.a3]) (by kernel_rfl) (by kernel_rfl) (by kernel_rfl) (by kernel_rfl) (readA_keep (by kernel_rfl) (readA_nil)))) (by kernel_rfl) (by kernel_rfl) (by kernel_rfl) (by kernel_rfl) (F81s0_ok n [a0.F.a0, a0.F.a1, a0.F.a2, a0.F.a3] r2 hr) (by kernel_rfl) (by kernel_rfl) (by kernel_rfl) rfl (by kernel_rfl) (by kernel_rfl) (by kernel_rfl))) (fun r2 => ?_))
        exact SimI.rd 3 [(2, qb (!(r2))), (21, qb (!(r2))), (20, qb (!(r2)))] [] (.thenN (.ret .fn))
      · exact SimI.rd 6 [(2, qb false), (21, qb false), (20, tz), (19, tz), (18, tz), (17, tz)] [] (.thenN (.ret .fn))
    · exact SimI.rd 11 [(2, qb false), (21, qb false), (20, tz), (19, tz), (18, tz), (17, tz), (16, qb false), (15, qb false), (14, tz), (13, tz), (12, tz)] [] (.thenN (.ret .fn))
  · exact SimI.rd 16 [(2, qb false), (21, qb false), (20, tz), (19, tz), (18, tz), (17, tz), (16, qb false), (15, qb false), (14, tz), (13, tz), (12, tz), (11, qb false), (10, qb false), (9, tz), (8, tz), (7, tz)] [] (.thenN (.ret .fn))


-- 35: vedette/note.isThings
def F35_e : Bool → PV × List Ob := fun r => (.one (lb r), [])
def F35_l4 (n : Nat) (a0 : (List Thing)) (a1 : (List Hand)) (a2 : Bool) : Nat → Int → Option Bool
  | 0, _ => none
  | m + 1, i3 =>
    if decide (i3 < ((a0).length : Int)) then
      (ix a0 i3).bind fun (x5 : Thing) =>
      (F64 n x5.At).bind fun (r6 : (Int × Int)) =>
      (F65s0 n a1 r6.1).bind fun (r7 : Bool) =>
      (F67 n x5).bind fun (r8 : Bool) =>
      if !(r8) then
        some false
      else
        if decide ((0 : Int) < i3) then
          (ix a0 (IntKind.wrap .i64 (i3 - 1))).bind fun (x9 : Thing) =>
          if decide (x5.ID ≤ x9.ID) then
            some false
          else
            if !(r7 == a2) then
              some false
            else
              (F35_l4 n a0 a1 a2 m) (IntKind.wrap .i64 (i3 + 1))
        else
          if !(r7 == a2) then
            some false
          else
            (F35_l4 n a0 a1 a2 m) (IntKind.wrap .i64 (i3 + 1))
    else
      some (decide (((a0).length : Int) ≤ 200))
theorem F35_l4_ok (n : Nat) (a0 : (List Thing)) (a1 : (List Hand)) (a2 : Bool) : ∀ (m : Nat) (i3 : Int), SimL Try.prog D (n + 8) m p35c24 [(0, .one (vw Thing.cod a0)), (1, .one (vw Hand.cod a1)), (2, qb a2), (12, .one (vw Thing.cod a0)), (13, qj ((a0).length : Int)), (14, qj i3)] [] (F35_l4 n a0 a1 a2 m i3) (QB 0 (QT Try.prog D (n + 8) p35c30 (QF false pc35_r 0 F35_e))) := by
  intro m_l4
  induction m_l4 with
  | zero => intro i3; exact SimL.zero'  rfl
  | succ m_l4 ih_l4 =>
    intro i3
    refine SimL.succ ?_
    unfold F35_l4
    refine Sim.seq (.rg [(0, .one (vw Thing.cod a0)), (1, .one (vw Hand.cod a1)), (2, qb a2), (12, .one (vw Thing.cod a0)), (13, qj ((a0).length : Int)), (14, qj i3)] [] (.rd 1 [(15, qb (decide (i3 < ((a0).length : Int))))] [] (.thenN (.seq (.cond (decide (i3 < ((a0).length : Int))) (by kernel_rfl) ?_ ?_)))))
    · refine Sim.skip (.thenN (.seq (.block (.st 1 [(16, qj i3)] [] (.bind (og := ix a0 i3) ⟨some 17, POp.iaddrS 11 (Operand.tmp 12) (Operand.tmp 14), none, []⟩ (fun x5 => [(17, .one (.eptr (Thing.cod.enc x5) 0))]) (fun x5 => []) (by kernel_rfl) (fun x5 hr => pOp_eff (by kernel_rfl) (by kernel_rfl) (eff_idx (c := Thing.cod) (l := a0) (k := .i64) (n := i3) (by kernel_rfl) (by kernel_rfl) (by kernel_rfl) hr)) (fun x5 => ?_))))))
      refine SimI.rd 4 [(7, qj i3), (8, qp 8 0), (18, .agg (Thing.cells x5))] [(8, some (.cells (Thing.cells x5))), (8, some (.cells [lj 0, lj 0, lj 0, lj 0, ls be, lj 0, ls be, lj 0, ls be, lj 0, ls be]))] (.thenN (.st 2 [(21, .agg [lj x5.At.X, lj x5.At.Y]), (20, qp 8 1)] [] (.cl 22 true [[]] 64 [21] none (fun r6 => .tup [qj r6.1, qj r6.2]) [.agg [lj x5.At.X, lj x5.At.Y]] (F64_ok n x5.At) (fun r6 => ?_))))
      refine SimI.rd 6 [(10, qj r6.2), (9, qp 9 0), (24, qj r6.2), (23, qj r6.1), (19, .tup [qj r6.1, qj r6.2])] [(9, some (.cells [lj r6.1])), (9, some (.cells [lj 0]))] (.thenN (.st 2 [(26, .one (.fn 66 [.ptr 9 0])), (25, .one (vw Hand.cod a1))] [] (.bind (og := F65s0 n a1 r6.1) ⟨some 27, POp.gcall false false [9, 300000, 300001, 300002, 300003, 300004, 300005, 300006, 300007] [[(0, 2)], []] 65 [25, 26], none, []⟩ (fun r7 => [(27, qb r7)]) (fun r7 => [(9, some (.cells [lj r6.1]))]) (by kernel_rfl) (fun r7 hr => pOp_eff (by kernel_rfl) (by kernel_rfl) (eff_gcall (ks := [9]) (rks := []) (new := []) (ARGS := [.one (vw Hand.cod a1), .one (.fn 66 [.ptr 9 0])]) (args1 := [.one (vw Hand.cod a1), .one (.fn 66 [.ptr 9 0])]) (args2 := [.one (vw Hand.cod a1), .one (.fn 66 [.ptr 1000000 0])]) (os := [.cells [lj r6.1]]) (os' := [.cells [lj r6.1]]) (os1 := [.cells [lj r6.1]]) (res := qb r7) (res1 := qb r7) (r := qb r7) (N := [(9, some (.cells [lj r6.1]))]) (by kernel_rfl) (readA_ow (readA_keep (by kernel_rfl) (readA_keep (by kernel_rfl) (readA_nil)))) (by kernel_rfl) (by kernel_rfl) (by kernel_rfl) (by kernel_rfl) (F65s0_ok n a1 r6.1 r7 hr) (by kernel_rfl) (by kernel_rfl) (by kernel_rfl) rfl (by kernel_rfl) (by kernel_rfl) (by kernel_rfl))) (fun r7 => ?_))))
      refine SimI.rd 1 [(11, qb r7)] [] (.thenN (.st 1 [(28, .agg (Thing.cells x5))] [] (.bind (og := F67 n x5) ⟨some 29, POp.call false [[]] 67 [28], none, [(28, Hint.imm)]⟩ (fun r8 => [(29, qb r8)]) (fun r8 => []) (by kernel_rfl) (fun r8 hr => pOp_eff (by kernel_rfl) (by kernel_rfl) (eff_call (ARGS := [.agg (Thing.cells x5)]) (by kernel_rfl) (args_clean (by kernel_rfl) args_nil) (F67_ok n x5 r8 hr) (by kernel_rfl))) (fun r8 => ?_))))
      refine SimI.rn 2 [(31, qb (!(r8))), (30, qb (!(r8)))] [] (.split 31 (!(r8)) (by kernel_rfl) ?_ ?_)
      · exact SimI.rd 19 [(50, qb true), (49, tz), (48, tz), (47, tz), (46, qb true), (45, qb true), (44, tz), (43, tz), (42, tz), (41, tz), (40, tz), (39, tz), (38, tz), (37, tz), (36, tz), (35, tz), (34, tz), (33, tz), (32, tz)] [] (.thenN (.condT (by kernel_rfl) (.sr 1 [(6, qb false)] [] (.ret (.blockR (.thenR (.loopR (.blockR (.thenR .fn)))))))))
      · refine SimI.rn 3 [(34, qb (decide ((0 : Int) < i3))), (33, qb (decide ((0 : Int) < i3))), (32, qj i3)] [] (.split 34 (decide ((0 : Int) < i3)) (by kernel_rfl) ?_ ?_)
        · refine SimI.rn 5 [(39, qj (iw .i64 (i3 - 1))), (38, qj i3), (37, .one (vw Thing.cod a0)), (36, qj x5.ID), (35, qp 8 0)] [] (.bind (og := ix a0 (iw .i64 (i3 - 1))) ⟨some 40, POp.iaddrS 11 (Operand.tmp 37) (Operand.tmp 39), some (34, true), [(37, Hint.imm), (39, Hint.imm)]⟩ (fun x9 => [(40, .one (.eptr (Thing.cod.enc x9) 0))]) (fun x9 => []) (by kernel_rfl) (fun x9 hr => pOp_eff (by kernel_rfl) (by kernel_rfl) (eff_idx (c := Thing.cod) (l := a0) (k := .i64) (n := IntKind.wrap .i64 (i3 - 1)) (by kernel_rfl) (by kernel_rfl) (by kernel_rfl) hr)) (fun x9 => ?_))
          refine SimI.rn 6 [(46, qb (decide (x5.ID ≤ x9.ID))), (45, qb (decide (x5.ID ≤ x9.ID))), (44, qb (decide (x5.ID ≤ x9.ID))), (43, qb (decide (x5.ID ≤ x9.ID))), (42, qj x9.ID), (41, .one (.eptr (Thing.cod.enc x9) 0))] [] (.split 46 (decide (x5.ID ≤ x9.ID)) (by kernel_rfl) ?_ ?_)
          · exact SimI.rd 4 [(50, qb true), (49, tz), (48, tz), (47, tz)] [] (.thenN (.condT (by kernel_rfl) (.sr 1 [(6, qb false)] [] (.ret (.blockR (.thenR (.loopR (.blockR (.thenR .fn)))))))))
          · refine SimI.rd 4 [(50, qb (!(r7 == a2))), (49, qb (!(r7 == a2))), (48, qb a2), (47, qb r7)] [] (.thenN (.cond (!(r7 == a2)) (by kernel_rfl) ?_ ?_))
            · exact Sim.sr 1 [(6, qb false)] [] (.ret (.blockR (.thenR (.loopR (.blockR (.thenR .fn))))))
            · refine Sim.skip (.blockN (.thenN (.region0 (.rd 2 [(14, qj (iw .i64 (i3 + 1))), (51, qj (iw .i64 (i3 + 1)))] [] (.loopN (.pr [0, 1, 2, 12, 13, 14] [8, 9] [] [(0, .one (vw Thing.cod a0)), (1, .one (vw Hand.cod a1)), (2, qb a2), (12, .one (vw Thing.cod a0)), (13, qj ((a0).length : Int)), (14, qj (iw .i64 (i3 + 1)))] [] ?_))))))
              exact ih_l4 (iw .i64 (i3 + 1))
        · refine SimI.rd 16 [(50, qb (!(r7 == a2))), (49, qb (!(r7 == a2))), (48, qb a2), (47, qb r7), (46, qb false), (45, qb false), (44, qb false), (43, tz), (42, tz), (41, tz), (40, tz), (39, tz), (38, tz), (37, tz), (36, tz), (35, tz)] [] (.thenN (.cond (!(r7 == a2)) (by kernel_rfl) ?_ ?_))
          · exact Sim.sr 1 [(6, qb false)] [] (.ret (.blockR (.thenR (.loopR (.blockR (.thenR .fn))))))
          · refine Sim.skip (.blockN (.thenN (.region0 (.rd 2 [(14, qj (iw .i64 (i3 + 1))), (51, qj (iw .i64 (i3 + 1)))] [] (.loopN (.pr [0, 1, 2, 12, 13, 14] [8, 9] [] [(0, .one (vw Thing.cod a0)), (1, .one (vw Hand.cod a1)), (2, qb a2), (12, .one (vw Thing.cod a0)), (13, qj ((a0).length : Int)), (14, qj (iw .i64 (i3 + 1)))] [] ?_))))))
            exact ih_l4 (iw .i64 (i3 + 1))
    · exact Sim.exit (.thenX (.loopX (.blockX (.thenN (.sr 4 [(6, qb (decide (((a0).length : Int) ≤ 200))), (54, qb (decide (((a0).length : Int) ≤ 200))), (53, qj ((a0).length : Int)), (52, .one (vw Thing.cod a0))] [] (.ret .fn))))))

def F35 (n : Nat) (a0 : (List Thing)) (a1 : (List Hand)) (a2 : Bool) : Option Bool :=
  F35_l4 n a0 a1 a2 (n + 8) 0
theorem F35_ok (n : Nat) (a0 : (List Thing)) (a1 : (List Hand)) (a2 : Bool) : ∀ r, F35 n a0 a1 a2 = some r → D 35 [.one (vw Thing.cod a0), .one (vw Hand.cod a1), .one (lb a2)] [] = some (F35_e r) := by
  refine fn_to (D := D) (n := n + 8) (nt := 55) (rs := pc35_r) (c := p35c32) (L := [(0, .one (vw Thing.cod a0)), (1, .one (vw Hand.cod a1)), (2, qb a2)]) (M := []) (k := 0) rfl rfl rfl rfl rfl rfl rfl ?_
  unfold F35
  refine Sim.sr 1 [(6, qb false)] [] (.seq (.sr 3 [(14, qj 0), (13, qj ((a0).length : Int)), (12, .one (vw Thing.cod a0))] [] (.block (.loop (.pr [0, 1, 2, 12, 13, 14] [8, 9] [] [(0, .one (vw Thing.cod a0)), (1, .one (vw Hand.cod a1)), (2, qb a2), (12, .one (vw Thing.cod a0)), (13, qj ((a0).length : Int)), (14, qj 0)] [] ?_)))))
  exact F35_l4_ok n a0 a1 a2 (n + 8) 0


-- 68: slices.IndexFunc[[]vedette/api.Command,vedette/api.Command]
def F68s0_e (a0 : (List Command)) : Int → PV × List Ob := fun r => (.one (li .i64 r), [])
def F68s0_l4 (n : Nat) (a0 : (List Command)) : Nat → Int → Option Int
  | 0, _ => none
  | m + 1, i3 =>
    if decide (i3 < ((a0).length : Int)) then
      (ix a0 i3).bind fun (x5 : Command) =>
      (F31 n x5).bind fun (r6 : Bool) =>
      if r6 then
        some i3
      else
        (F68s0_l4 n a0 m) (IntKind.wrap .i64 (i3 + 1))
    else
      some (-1)
theorem F68s0_l4_ok (n : Nat) (a0 : (List Command)) : ∀ (m : Nat) (i3 : Int), SimL Try.prog D (n + 8) m p68c20 [(0, .one (vw Command.cod a0)), (1, .one (.val (.func (.func 31) #[] #[]))), (7, qj ((a0).length : Int)), (8, qj i3)] [] (F68s0_l4 n a0 m i3) (QB 0 (QT Try.prog D (n + 8) p68c26 (QF false pc68_r 0 (F68s0_e a0)))) := by
  intro m_l4
  induction m_l4 with
  | zero => intro i3; exact SimL.zero'  rfl
  | succ m_l4 ih_l4 =>
    intro i3
    refine SimL.succ ?_
    unfold F68s0_l4
    refine Sim.seq (.rg [(0, .one (vw Command.cod a0)), (1, .one (.val (.func (.func 31) #[] #[]))), (7, qj ((a0).length : Int)), (8, qj i3)] [] (.rd 1 [(9, qb (decide (i3 < ((a0).length : Int))))] [] (.thenN (.seq (.cond (decide (i3 < ((a0).length : Int))) (by kernel_rfl) ?_ ?_)))))
    · refine Sim.skip (.thenN (.seq (.block (.sr 2 [(5, qj i3), (10, qj i3)] [] (.st 3 [(13, qj i3), (12, .one (vw Command.cod a0)), (11, .one (.val (.func (.func 31) #[] #[])))] [] (.bind (og := ix a0 i3) ⟨some 14, POp.iaddrS 22 (Operand.tmp 12) (Operand.tmp 13), none, []⟩ (fun x5 => [(14, .one (.eptr (Command.cod.enc x5) 0))]) (fun x5 => []) (by kernel_rfl) (fun x5 hr => pOp_eff (by kernel_rfl) (by kernel_rfl) (eff_idx (c := Command.cod) (l := a0) (k := .i64) (n := i3) (by kernel_rfl) (by kernel_rfl) (by kernel_rfl) hr)) (fun x5 => ?_)))))))
      refine SimI.rn 1 [(15, .agg (Command.cells x5))] [] (.bind (og := F31 n x5) ⟨some 16, POp.callv true [[]] (Operand.tmp 11) [15], none, []⟩ (fun r6 => [(16, qb r6)]) (fun r6 => []) (by kernel_rfl) (fun r6 hr => pOp_eff (by kernel_rfl) (by kernel_rfl) (eff_callvv (by kernel_rfl) (ARGS := [.agg (Command.cells x5)]) (by kernel_rfl) (args_clean (by kernel_rfl) args_nil) (F31_ok n x5 r6 hr) (by kernel_rfl))) (fun r6 => ?_))
      refine SimI.dn (.thenN (.cond r6 (by kernel_rfl) ?_ ?_))
      · exact Sim.sr 2 [(4, qj i3), (17, qj i3)] [] (.ret (.blockR (.thenR (.loopR (.blockR (.thenR .fn))))))
      · refine Sim.skip (.blockN (.thenN (.region0 (.rd 2 [(8, qj (iw .i64 (i3 + 1))), (18, qj (iw .i64 (i3 + 1)))] [] (.loopN (.pr [0, 1, 7, 8] [] [] [(0, .one (vw Command.cod a0)), (1, .one (.val (.func (.func 31) #[] #[]))), (7, qj ((a0).length : Int)), (8, qj (iw .i64 (i3 + 1)))] [] ?_))))))
        exact ih_l4 (iw .i64 (i3 + 1))
    · exact Sim.exit (.thenX (.loopX (.blockX (.thenN (.sr 1 [(4, qj (-1))] [] (.ret .fn))))))

def F68s0 (n : Nat) (a0 : (List Command)) : Option Int :=
  F68s0_l4 n a0 (n + 8) 0
theorem F68s0_ok (n : Nat) (a0 : (List Command)) : ∀ r, F68s0 n a0 = some r → D 68 [.one (vw Command.cod a0), .one (.val (.func (.func 31) #[] #[]))] [] = some ((F68s0_e a0) r) := by
  refine fn_to (D := D) (n := n + 8) (nt := 19) (rs := pc68_r) (c := p68c28) (L := [(0, .one (vw Command.cod a0)), (1, .one (.val (.func (.func 31) #[] #[])))]) (M := []) (k := 0) rfl rfl rfl rfl rfl rfl rfl ?_
  unfold F68s0
  refine Sim.sr 1 [(4, qj 0)] [] (.seq (.sr 3 [(8, qj 0), (7, qj ((a0).length : Int)), (6, .one (vw Command.cod a0))] [] (.block (.loop (.pr [0, 1, 7, 8] [] [] [(0, .one (vw Command.cod a0)), (1, .one (.val (.func (.func 31) #[] #[]))), (7, qj ((a0).length : Int)), (8, qj 0)] [] ?_)))))
  exact F68s0_l4_ok n a0 (n + 8) 0


-- 36: slices.ContainsFunc[[]vedette/api.Command,vedette/api.Command]
def F36s0_e (a0 : (List Command)) : Bool → PV × List Ob := fun r => (.one (lb r), [])
def F36s0 (n : Nat) (a0 : (List Command)) : Option Bool :=
  (F68s0 n a0).bind fun (r1 : Int) =>
  some (decide ((0 : Int) ≤ r1))
theorem F36s0_ok (n : Nat) (a0 : (List Command)) : ∀ r, F36s0 n a0 = some r → D 36 [.one (vw Command.cod a0), .one (.val (.func (.func 31) #[] #[]))] [] = some ((F36s0_e a0) r) := by
  refine fn_to (D := D) (n := n + 8) (nt := 9) (rs := pc36_r) (c := p36c5) (L := [(0, .one (vw Command.cod a0)), (1, .one (.val (.func (.func 31) #[] #[])))]) (M := []) (k := 0) rfl rfl rfl rfl rfl rfl rfl ?_
  unfold F36s0
  refine Sim.sr 1 [(4, qb false)] [] (.st 2 [(6, .one (.val (.func (.func 31) #[] #[]))), (5, .one (vw Command.cod a0))] [] (.bind (og := F68s0 n a0) ⟨some 7, POp.gcall false false [300000, 300001, 300002, 300003, 300004, 300005, 300006, 300007] [[(0, 22)], []] 68 [5, 6], none, []⟩ (fun r1 => [(7, qj r1)]) (fun r1 => []) (by kernel_rfl) (fun r1 hr => pOp_eff (by kernel_rfl) (by kernel_rfl) (eff_gcall (ks := []) (rks := []) (new := []) (ARGS := [.one (vw Command.cod a0), .one (.val (.func (.func 31) #[] #[]))]) (args1 := [.one (vw Command.cod a0), .one (.val (.func (.func 31) #[] #[]))]) (args2 := [.one (vw Command.cod a0), .one (.val (.func (.func 31) #[] #[]))]) (os := []) (os' := []) (os1 := []) (res := qj r1) (res1 := qj r1) (r := qj r1) (N := []) (by kernel_rfl) (readA_ow (readA_keep (by kernel_rfl) (readA_keep (by kernel_rfl) (readA_nil)))) (by kernel_rfl) (by kernel_rfl) (by kernel_rfl) (by kernel_rfl) (F68s0_ok n a0 r1 hr) (by kernel_rfl) (by kernel_rfl) (by kernel_rfl) rfl (by kernel_rfl) (by kernel_rfl) (by kernel_rfl))) (fun r1 => ?_)))
  exact SimI.rd 2 [(4, qb (decide ((0 : Int) ≤ r1))), (8, qb (decide ((0 : Int) ≤ r1)))] [] (.thenN (.ret .fn))


-- 11: vedette/note.Is
def F11_e : Bool → PV × List Ob := fun r => (.one (lb r), [])
def F11 (n : Nat) (a0 : Note) (a1 : Int) : Option Bool :=
  if decide (a0.From < 0) then
    some false
  else
    if decide (imin a1 4 ≤ a0.From) then
      some false
    else
      if decide (a0.Beat < 0) then
        some false
      else
        if decide ((1073741824 : Int) < a0.Beat) then
          some false
        else
          if decide ((20 : Int) < ((a0.Watch).length : Int)) then
            some false
          else
            (F34 n a0.Hands a0.From (imin a1 4)).bind fun (r1 : Bool) =>
            if r1 then
              (F35 n a0.Moved a0.Hands false).bind fun (r2 : Bool) =>
              if r2 then
                (F35 n a0.Given a0.Hands true).bind fun (r3 : Bool) =>
                if r3 then
                  (F36s0 n a0.Watch).bind fun (r4 : Bool) =>
                  some (!(r4))
                else
                  some false
              else
                some false
            else
              some false
theorem F11_ok (n : Nat) (a0 : Note) (a1 : Int) : ∀ r, F11 n a0 a1 = some r → D 11 [.agg [li .i64 a0.From, li .i64 a0.Beat, vw Thing.cod a0.Moved, vw Hand.cod a0.Hands, vw Thing.cod a0.Given, vw Command.cod a0.Watch], .one (li .i64 a1)] [] = some (F11_e r) := by
  refine fn_to (D := D) (n := n + 8) (nt := 60) (rs := pc11_r) (c := p11c17) (L := [(0, .agg (w0 a0)), (1, qj a1)]) (M := []) (k := 0) rfl rfl rfl rfl rfl rfl rfl ?_
  unfold F11
  refine Sim.sr 2 [(4, qb false), (2, qp 2 0)] [(2, some (.cells (w0 a0)))] (.sr 3 [(1, qj (imin a1 4)), (7, qj (imin a1 4)), (6, qj a1)] [] (.seq (.st 4 [(11, qb (decide (a0.From < 0))), (10, qb (decide (a0.From < 0))), (9, qj a0.From), (8, qp 2 0)] [] (.split 11 (decide (a0.From < 0)) (by kernel_rfl) ?_ ?_))))
  · exact SimI.rd 21 [(32, qb true), (31, tz), (30, tz), (29, tz), (28, tz), (27, qb true), (26, qb true), (25, tz), (24, tz), (23, tz), (22, qb true), (21, qb true), (20, tz), (19, tz), (18, tz), (17, qb true), (16, qb true), (15, tz), (14, tz), (13, tz), (12, tz)] [] (.thenN (.condT (by kernel_rfl) (.sr 1 [(4, qb false)] [] (.ret (.thenR .fn)))))
  · refine SimI.rn 6 [(17, qb (decide (imin a1 4 ≤ a0.From))), (16, qb (decide (imin a1 4 ≤ a0.From))), (15, qb (decide (imin a1 4 ≤ a0.From))), (14, qj (imin a1 4)), (13, qj a0.From), (12, qp 2 0)] [] (.split 17 (decide (imin a1 4 ≤ a0.From)) (by kernel_rfl) ?_ ?_)
    · exact SimI.rd 15 [(32, qb true), (31, tz), (30, tz), (29, tz), (28, tz), (27, qb true), (26, qb true), (25, tz), (24, tz), (23, tz), (22, qb true), (21, qb true), (20, tz), (19, tz), (18, tz)] [] (.thenN (.condT (by kernel_rfl) (.sr 1 [(4, qb false)] [] (.ret (.thenR .fn)))))
    · refine SimI.rn 5 [(22, qb (decide (a0.Beat < 0))), (21, qb (decide (a0.Beat < 0))), (20, qb (decide (a0.Beat < 0))), (19, qj a0.Beat), (18, qp 2 1)] [] (.split 22 (decide (a0.Beat < 0)) (by kernel_rfl) ?_ ?_)
      · exact SimI.rd 10 [(32, qb true), (31, tz), (30, tz), (29, tz), (28, tz), (27, qb true), (26, qb true), (25, tz), (24, tz), (23, tz)] [] (.thenN (.condT (by kernel_rfl) (.sr 1 [(4, qb false)] [] (.ret (.thenR .fn)))))
      · refine SimI.rn 5 [(27, qb (decide ((1073741824 : Int) < a0.Beat))), (26, qb (decide ((1073741824 : Int) < a0.Beat))), (25, qb (decide ((1073741824 : Int) < a0.Beat))), (24, qj a0.Beat), (23, qp 2 1)] [] (.split 27 (decide ((1073741824 : Int) < a0.Beat)) (by kernel_rfl) ?_ ?_)
        · exact SimI.rd 5 [(32, qb true), (31, tz), (30, tz), (29, tz), (28, tz)] [] (.thenN (.condT (by kernel_rfl) (.sr 1 [(4, qb false)] [] (.ret (.thenR .fn)))))
        · refine SimI.rd 5 [(32, qb (decide ((20 : Int) < ((a0.Watch).length : Int)))), (31, qb (decide ((20 : Int) < ((a0.Watch).length : Int)))), (30, qj ((a0.Watch).length : Int)), (29, .one (vw Command.cod a0.Watch)), (28, qp 2 5)] [] (.thenN (.cond (decide ((20 : Int) < ((a0.Watch).length : Int))) (by kernel_rfl) ?_ ?_))
          · exact Sim.sr 1 [(4, qb false)] [] (.ret (.thenR .fn))
          · refine Sim.skip (.thenN (.sr 1 [(5, .one (.val (.func (.func 31) #[] #[])))] [] (.st 5 [(37, qj (imin a1 4)), (36, qj a0.From), (35, qp 2 0), (34, .one (vw Hand.cod a0.Hands)), (33, qp 2 3)] [] (.cl 38 true [[(0, 2)], [], []] 34 [34, 36, 37] none (fun r1 => qb r1) [.one (vw Hand.cod a0.Hands), qj a0.From, qj (imin a1 4)] (F34_ok n a0.Hands a0.From (imin a1 4)) (fun r1 => ?_)))))
            refine SimI.rn 1 [(39, qb r1)] [] (.split 39 r1 (by kernel_rfl) ?_ ?_)
            · refine SimI.rn 4 [(43, .one (vw Hand.cod a0.Hands)), (42, qp 2 3), (41, .one (vw Thing.cod a0.Moved)), (40, qp 2 2)] [] (.cl 44 true [[(0, 11)], [(0, 2)], []] 35 [41, 43, Operand.const (Value.bool false)] (some (39, true)) (fun r2 => qb r2) [.one (vw Thing.cod a0.Moved), .one (vw Hand.cod a0.Hands), qb false] (F35_ok n a0.Moved a0.Hands false) (fun r2 => ?_))
              refine SimI.rn 2 [(46, qb r2), (45, qb r2)] [] (.split 46 r2 (by kernel_rfl) ?_ ?_)
              · refine SimI.rn 4 [(50, .one (vw Hand.cod a0.Hands)), (49, qp 2 3), (48, .one (vw Thing.cod a0.Given)), (47, qp 2 4)] [] (.cl 51 true [[(0, 11)], [(0, 2)], []] 35 [48, 50, Operand.const (Value.bool true)] (some (46, true)) (fun r3 => qb r3) [.one (vw Thing.cod a0.Given), .one (vw Hand.cod a0.Hands), qb true] (F35_ok n a0.Given a0.Hands true) (fun r3 => ?_))
                refine SimI.rn 2 [(53, qb r3), (52, qb r3)] [] (.split 53 r3 (by kernel_rfl) ?_ ?_)
                · refine SimI.rn 3 [(56, .one (.val (.func (.func 31) #[] #[]))), (55, .one (vw Command.cod a0.Watch)), (54, qp 2 5)] [] (.bind (og := F36s0 n a0.Watch) ⟨some 57, POp.gcall false false [300000, 300001, 300002, 300003, 300004, 300005, 300006, 300007] [[(0, 22)], []] 36 [55, 56], some (53, true), []⟩ (fun r4 => [(57, qb r4)]) (fun r4 => []) (by kernel_rfl) (fun r4 hr => pOp_eff (by kernel_rfl) (by kernel_rfl) (eff_gcall (ks := []) (rks := []) (new := []) (ARGS := [.one (vw Command.cod a0.Watch), .one (.val (.func (.func 31) #[] #[]))]) (args1 := [.one (vw Command.cod a0.Watch), .one (.val (.func (.func 31) #[] #[]))]) (args2 := [.one (vw Command.cod a0.Watch), .one (.val (.func (.func 31) #[] #[]))]) (os := []) (os' := []) (os1 := []) (res := qb r4) (res1 := qb r4) (r := qb r4) (N := []) (by kernel_rfl) (readA_ow (readA_keep (by kernel_rfl) (readA_keep (by kernel_rfl) (readA_nil)))) (by kernel_rfl) (by kernel_rfl) (by kernel_rfl) (by kernel_rfl) (F36s0_ok n a0.Watch r4 hr) (by kernel_rfl) (by kernel_rfl) (by kernel_rfl) rfl (by kernel_rfl) (by kernel_rfl) (by kernel_rfl))) (fun r4 => ?_))
                  exact SimI.rd 3 [(4, qb (!(r4))), (59, qb (!(r4))), (58, qb (!(r4)))] [] (.thenN (.ret .fn))
                · exact SimI.rd 7 [(4, qb false), (59, qb false), (58, tz), (57, tz), (56, tz), (55, tz), (54, tz)] [] (.thenN (.ret .fn))
              · exact SimI.rd 14 [(4, qb false), (59, qb false), (58, tz), (57, tz), (56, tz), (55, tz), (54, tz), (53, qb false), (52, qb false), (51, tz), (50, tz), (49, tz), (48, tz), (47, tz)] [] (.thenN (.ret .fn))
            · exact SimI.rd 21 [(4, qb false), (59, qb false), (58, tz), (57, tz), (56, tz), (55, tz), (54, tz), (53, qb false), (52, qb false), (51, tz), (50, tz), (49, tz), (48, tz), (47, tz), (46, qb false), (45, qb false), (44, tz), (43, tz), (42, tz), (41, tz), (40, tz)] [] (.thenN (.ret .fn))


-- 7: vedette/vedettelaw17.known
theorem F7_ok (n : Nat) : ∀ r, (some true : Option Bool) = some r → D 7 [] [] = some (.one (lb r), []) := by
  rintro _ ⟨⟩
  exact all_of (N := 60) (by kernel_rfl)


-- 6: vedette/vedettelaw17.NoteCells
def F6_e : Bool → PV × List Ob := fun r => (.one (lb r), [])
def F6_j5 (n : Nat) (a2 : Int) (a3 : Int) (l2 : (List Hand)) (b4 : Bool) : Option Bool :=
    (F11 n (Note.mk 0 2 ([] : List Thing) l2 ([] : List Thing) ([] : List Command)) 2).bind fun (r6 : Bool) =>
    if r6 then
      (F11 n (Note.mk 0 2 ([] : List Thing) l2 [(Thing.mk 5 (Point.mk (IntKind.wrap .i64 (Int.tmod a2 64)) (IntKind.wrap .i64 (Int.tmod a3 64))) (A4.mk (Field.mk 0 ByteArray.empty) (Field.mk 0 ByteArray.empty) (Field.mk 0 ByteArray.empty) (Field.mk 0 ByteArray.empty)))] ([] : List Command)) 2).bind fun (r7 : Bool) =>
      if r7 == b4 then
        (F11 n (Note.mk 0 2 [(Thing.mk 5 (Point.mk (IntKind.wrap .i64 (Int.tmod a2 64)) (IntKind.wrap .i64 (Int.tmod a3 64))) (A4.mk (Field.mk 0 ByteArray.empty) (Field.mk 0 ByteArray.empty) (Field.mk 0 ByteArray.empty) (Field.mk 0 ByteArray.empty)))] l2 ([] : List Thing) ([] : List Command)) 2).bind fun (r8 : Bool) =>
        some (r8 == (!(b4)))
      else
        some false
    else
      some false
theorem F6_j5_ok (n : Nat) (a2 : Int) (a3 : Int) (l2 : (List Hand)) (b4 : Bool) : Sim Try.prog D (n + 8) p6c25 [(12, qp 12 0), (13, qp 13 0), (14, qp 14 0), (18, qb b4)] [(12, some (.cells [lj 0, lj 2, lnil, .osl 39 0 0 (l2).length, lnil, lnil])), (13, some (.cells [lj 0, lj 2, lnil, .osl 39 0 0 (l2).length, vw Thing.cod [(Thing.mk 5 (Point.mk (IntKind.wrap .i64 (Int.tmod a2 64)) (IntKind.wrap .i64 (Int.tmod a3 64))) (A4.mk (Field.mk 0 be) (Field.mk 0 be) (Field.mk 0 be) (Field.mk 0 be)))], lnil])), (14, some (.cells [lj 0, lj 2, vw Thing.cod [(Thing.mk 5 (Point.mk (IntKind.wrap .i64 (Int.tmod a2 64)) (IntKind.wrap .i64 (Int.tmod a3 64))) (A4.mk (Field.mk 0 be) (Field.mk 0 be) (Field.mk 0 be) (Field.mk 0 be)))], .osl 39 0 0 (l2).length, lnil, lnil])), (39, some (.arr 44 Hand.cod.sz 0 (l2).length (getOf Hand.cod l2)))] (F6_j5 n a2 a3 l2 b4) (QF false pc6_r 0 F6_e) := by
    unfold F6_j5
    refine Sim.seq (.rg [(12, qp 12 0), (13, qp 13 0), (14, qp 14 0), (18, qb b4)] [(12, some (.cells [lj 0, lj 2, lnil, .osl 39 0 0 (l2).length, lnil, lnil])), (13, some (.cells [lj 0, lj 2, lnil, .osl 39 0 0 (l2).length, vw Thing.cod [(Thing.mk 5 (Point.mk (iw .i64 (Int.tmod a2 64)) (iw .i64 (Int.tmod a3 64))) (A4.mk (Field.mk 0 be) (Field.mk 0 be) (Field.mk 0 be) (Field.mk 0 be)))], lnil])), (14, some (.cells [lj 0, lj 2, vw Thing.cod [(Thing.mk 5 (Point.mk (iw .i64 (Int.tmod a2 64)) (iw .i64 (Int.tmod a3 64))) (A4.mk (Field.mk 0 be) (Field.mk 0 be) (Field.mk 0 be) (Field.mk 0 be)))], .osl 39 0 0 (l2).length, lnil, lnil])), (39, some (.arr 44 Hand.cod.sz 0 (l2).length (getOf Hand.cod l2)))] (.rn 1 [(91, .agg [lj 0, lj 2, lnil, .osl 39 0 0 (l2).length, lnil, lnil])] [] (.bind (og := F11 n (Note.mk 0 2 ([] : List Thing) l2 ([] : List Thing) ([] : List Command)) 2) ⟨some 92, POp.gcall false false [39, 300000, 300001, 300002, 300003, 300004, 300005, 300006, 300007] [[(2, 11), (3, 2), (4, 11), (5, 22)], []] 11 [91, Operand.const (Value.int IntKind.i64 2)], none, []⟩ (fun r6 => [(92, qb r6)]) (fun r6 => []) (by kernel_rfl) (fun r6 hr => pOp_eff (by kernel_rfl) (by kernel_rfl) (eff_gcall (ks := []) (rks := [39]) (new := []) (ARGS := [.agg [lj 0, lj 2, vw Thing.cod ([] : List Thing), .osl 39 0 0 (l2).length, vw Thing.cod ([] : List Thing), vw Command.cod ([] : List Command)], qj 2]) (args1 := [.agg [lj 0, lj 2, vw Thing.cod ([] : List Thing), vw Hand.cod l2, vw Thing.cod ([] : List Thing), vw Command.cod ([] : List Command)], qj 2]) (args2 := [.agg [lj 0, lj 2, vw Thing.cod ([] : List Thing), vw Hand.cod l2, vw Thing.cod ([] : List Thing), vw Command.cod ([] : List Command)], qj 2]) (os := []) (os' := []) (os1 := []) (res := qb r6) (res1 := qb r6) (r := qb r6) (N := []) (by kernel_rfl) (readA_ow (readA_aggO (readLs_keep (by kernel_rfl) (readLs_keep (by kernel_rfl) (readLs_keep (by kernel_rfl) (readLs_own (c := Hand.cod) (k := 39) (g := 0) (el := 44) (l := l2) (by kernel_rfl) (readLs_keep (by kernel_rfl) (readLs_keep (by kernel_rfl) (readLs_nil))))))) (readA_keep (by kernel_rfl) (readA_nil)))) (by kernel_rfl) (by kernel_rfl) (by kernel_rfl) (by kernel_rfl) (F11_ok n (Note.mk 0 2 ([] : List Thing) l2 ([] : List Thing) ([] : List Command)) 2 r6 hr) (by kernel_rfl) (by kernel_rfl) (by kernel_rfl) rfl (by kernel_rfl) (by kernel_rfl) (by kernel_rfl))) (fun r6 => ?_))))
    refine SimI.rn 1 [(93, qb r6)] [] (.split 93 r6 (by kernel_rfl) ?_ ?_)
    · refine SimI.rn 1 [(94, .agg [lj 0, lj 2, lnil, .osl 39 0 0 (l2).length, vw Thing.cod [(Thing.mk 5 (Point.mk (iw .i64 (Int.tmod a2 64)) (iw .i64 (Int.tmod a3 64))) (A4.mk (Field.mk 0 be) (Field.mk 0 be) (Field.mk 0 be) (Field.mk 0 be)))], lnil])] [] (.bind (og := F11 n (Note.mk 0 2 ([] : List Thing) l2 [(Thing.mk 5 (Point.mk (iw .i64 (Int.tmod a2 64)) (iw .i64 (Int.tmod a3 64))) (A4.mk (Field.mk 0 be) (Field.mk 0 be) (Field.mk 0 be) (Field.mk 0 be)))] ([] : List Command)) 2) ⟨some 95, POp.gcall false false [39, 300000, 300001, 300002, 300003, 300004, 300005, 300006, 300007] [[(2, 11), (3, 2), (4, 11), (5, 22)], []] 11 [94, Operand.const (Value.int IntKind.i64 2)], some (93, true), []⟩ (fun r7 => [(95, qb r7)]) (fun r7 => []) (by kernel_rfl) (fun r7 hr => pOp_eff (by kernel_rfl) (by kernel_rfl) (eff_gcall (ks := []) (rks := [39]) (new := []) (ARGS := [.agg [lj 0, lj 2, vw Thing.cod ([] : List Thing), .osl 39 0 0 (l2).length, vw Thing.cod [(Thing.mk 5 (Point.mk (iw .i64 (Int.tmod a2 64)) (iw .i64 (Int.tmod a3 64))) (A4.mk (Field.mk 0 be) (Field.mk 0 be) (Field.mk 0 be) (Field.mk 0 be)))], vw Command.cod ([] : List Command)], qj 2]) (args1 := [.agg [lj 0, lj 2, vw Thing.cod ([] : List Thing), vw Hand.cod l2, vw Thing.cod [(Thing.mk 5 (Point.mk (iw .i64 (Int.tmod a2 64)) (iw .i64 (Int.tmod a3 64))) (A4.mk (Field.mk 0 be) (Field.mk 0 be) (Field.mk 0 be) (Field.mk 0 be)))], vw Command.cod ([] : List Command)], qj 2]) (args2 := [.agg [lj 0, lj 2, vw Thing.cod ([] : List Thing), vw Hand.cod l2, vw Thing.cod [(Thing.mk 5 (Point.mk (iw .i64 (Int.tmod a2 64)) (iw .i64 (Int.tmod a3 64))) (A4.mk (Field.mk 0 be) (Field.mk 0 be) (Field.mk 0 be) (Field.mk 0 be)))], vw Command.cod ([] : List Command)], qj 2]) (os := []) (os' := []) (os1 := []) (res := qb r7) (res1 := qb r7) (r := qb r7) (N := []) (by kernel_rfl) (readA_ow (readA_aggO (readLs_keep (by kernel_rfl) (readLs_keep (by kernel_rfl) (readLs_keep (by kernel_rfl) (readLs_own (c := Hand.cod) (k := 39) (g := 0) (el := 44) (l := l2) (by kernel_rfl) (readLs_keep (by kernel_rfl) (readLs_keep (by kernel_rfl) (readLs_nil))))))) (readA_keep (by kernel_rfl) (readA_nil)))) (by kernel_rfl) (by kernel_rfl) (by kernel_rfl) (by kernel_rfl) (F11_ok n (Note.mk 0 2 ([] : List Thing) l2 [(Thing.mk 5 (Point.mk (iw .i64 (Int.tmod a2 64)) (iw .i64 (Int.tmod a3 64))) (A4.mk (Field.mk 0 be) (Field.mk 0 be) (Field.mk 0 be) (Field.mk 0 be)))] ([] : List Command)) 2 r7 hr) (by kernel_rfl) (by kernel_rfl) (by kernel_rfl) rfl (by kernel_rfl) (by kernel_rfl) (by kernel_rfl))) (fun r7 => ?_))
      refine SimI.rn 4 [(99, qb (r7 == b4)), (98, qb (r7 == b4)), (97, qb (r7 == b4)), (96, qb b4)] [] (.split 99 (r7 == b4) (by kernel_rfl) ?_ ?_)
      · refine SimI.rn 1 [(100, .agg [lj 0, lj 2, vw Thing.cod [(Thing.mk 5 (Point.mk (iw .i64 (Int.tmod a2 64)) (iw .i64 (Int.tmod a3 64))) (A4.mk (Field.mk 0 be) (Field.mk 0 be) (Field.mk 0 be) (Field.mk 0 be)))], .osl 39 0 0 (l2).length, lnil, lnil])] [] (.bind (og := F11 n (Note.mk 0 2 [(Thing.mk 5 (Point.mk (iw .i64 (Int.tmod a2 64)) (iw .i64 (Int.tmod a3 64))) (A4.mk (Field.mk 0 be) (Field.mk 0 be) (Field.mk 0 be) (Field.mk 0 be)))] l2 ([] : List Thing) ([] : List Command)) 2) ⟨some 101, POp.gcall false false [39, 300000, 300001, 300002, 300003, 300004, 300005, 300006, 300007] [[(2, 11), (3, 2), (4, 11), (5, 22)], []] 11 [100, Operand.const (Value.int IntKind.i64 2)], some (99, true), []⟩ (fun r8 => [(101, qb r8)]) (fun r8 => []) (by kernel_rfl) (fun r8 hr => pOp_eff (by kernel_rfl) (by kernel_rfl) (eff_gcall (ks := []) (rks := [39]) (new := []) (ARGS := [.agg [lj 0, lj 2, vw Thing.cod [(Thing.mk 5 (Point.mk (iw .i64 (Int.tmod a2 64)) (iw .i64 (Int.tmod a3 64))) (A4.mk (Field.mk 0 be) (Field.mk 0 be) (Field.mk 0 be) (Field.mk 0 be)))], .osl 39 0 0 (l2).length, vw Thing.cod ([] : List Thing), vw Command.cod ([] : List Command)], qj 2]) (args1 := [.agg [lj 0, lj 2, vw Thing.cod [(Thing.mk 5 (Point.mk (iw .i64 (Int.tmod a2 64)) (iw .i64 (Int.tmod a3 64))) (A4.mk (Field.mk 0 be) (Field.mk 0 be) (Field.mk 0 be) (Field.mk 0 be)))], vw Hand.cod l2, vw Thing.cod ([] : List Thing), vw Command.cod ([] : List Command)], qj 2]) (args2 := [.agg [lj 0, lj 2, vw Thing.cod [(Thing.mk 5 (Point.mk (iw .i64 (Int.tmod a2 64)) (iw .i64 (Int.tmod a3 64))) (A4.mk (Field.mk 0 be) (Field.mk 0 be) (Field.mk 0 be) (Field.mk 0 be)))], vw Hand.cod l2, vw Thing.cod ([] : List Thing), vw Command.cod ([] : List Command)], qj 2]) (os := []) (os' := []) (os1 := []) (res := qb r8) (res1 := qb r8) (r := qb r8) (N := []) (by kernel_rfl) (readA_ow (readA_aggO (readLs_keep (by kernel_rfl) (readLs_keep (by kernel_rfl) (readLs_keep (by kernel_rfl) (readLs_own (c := Hand.cod) (k := 39) (g := 0) (el := 44) (l := l2) (by kernel_rfl) (readLs_keep (by kernel_rfl) (readLs_keep (by kernel_rfl) (readLs_nil))))))) (readA_keep (by kernel_rfl) (readA_nil)))) (by kernel_rfl) (by kernel_rfl) (by kernel_rfl) (by kernel_rfl) (F11_ok n (Note.mk 0 2 [(Thing.mk 5 (Point.mk (iw .i64 (Int.tmod a2 64)) (iw .i64 (Int.tmod a3 64))) (A4.mk (Field.mk 0 be) (Field.mk 0 be) (Field.mk 0 be) (Field.mk 0 be)))] l2 ([] : List Thing) ([] : List Command)) 2 r8 hr) (by kernel_rfl) (by kernel_rfl) (by kernel_rfl) rfl (by kernel_rfl) (by kernel_rfl) (by kernel_rfl))) (fun r8 => ?_))
        exact SimI.rd 5 [(8, qb (r8 == (!(b4)))), (105, qb (r8 == (!(b4)))), (104, qb (r8 == (!(b4)))), (103, qb (!(b4))), (102, qb b4)] [] (.thenN (.ret .fn))
      · exact SimI.rd 7 [(8, qb false), (105, qb false), (104, tz), (103, tz), (102, tz), (101, tz), (100, tz)] [] (.thenN (.ret .fn))
    · exact SimI.rd 13 [(8, qb false), (105, qb false), (104, tz), (103, tz), (102, tz), (101, tz), (100, tz), (99, qb false), (98, qb false), (97, tz), (96, tz), (95, tz), (94, tz)] [] (.thenN (.ret .fn))

def F6_j3 (n : Nat) (a0 : Int) (a1 : Int) (a2 : Int) (a3 : Int) (l2 : (List Hand)) : Option Bool :=
    if (bitsI .or .i64 (bitsI .or .i64 (bitsI .or .i64 (bitsI .and .i64 (IntKind.wrap .i64 (Int.tdiv (IntKind.wrap .i64 (Int.tmod a2 64)) 16)) 1) (shlI .i64 (bitsI .and .i64 (IntKind.wrap .i64 (Int.tdiv (IntKind.wrap .i64 (Int.tmod a3 64)) 16)) 1) 1)) (shlI .i64 (bitsI .and .i64 (IntKind.wrap .i64 (Int.tdiv (IntKind.wrap .i64 (Int.tmod a2 64)) 16)) 2) 1)) (shlI .i64 (bitsI .and .i64 (IntKind.wrap .i64 (Int.tdiv (IntKind.wrap .i64 (Int.tmod a3 64)) 16)) 2) 2)) == (IntKind.wrap .i64 (Int.tmod a0 16)) then
      F6_j5 n a2 a3 l2 true
    else
      F6_j5 n a2 a3 l2 ((bitsI .or .i64 (bitsI .or .i64 (bitsI .or .i64 (bitsI .and .i64 (IntKind.wrap .i64 (Int.tdiv (IntKind.wrap .i64 (Int.tmod a2 64)) 16)) 1) (shlI .i64 (bitsI .and .i64 (IntKind.wrap .i64 (Int.tdiv (IntKind.wrap .i64 (Int.tmod a3 64)) 16)) 1) 1)) (shlI .i64 (bitsI .and .i64 (IntKind.wrap .i64 (Int.tdiv (IntKind.wrap .i64 (Int.tmod a2 64)) 16)) 2) 1)) (shlI .i64 (bitsI .and .i64 (IntKind.wrap .i64 (Int.tdiv (IntKind.wrap .i64 (Int.tmod a3 64)) 16)) 2) 2)) == (IntKind.wrap .i64 (Int.tmod a1 16)))
theorem F6_j3_ok (n : Nat) (a0 : Int) (a1 : Int) (a2 : Int) (a3 : Int) (l2 : (List Hand)) : Sim Try.prog D (n + 8) p6c31 [(9, qj (IntKind.wrap .i64 (Int.tmod a0 16))), (10, qj (IntKind.wrap .i64 (Int.tmod a1 16))), (11, qp 11 0), (12, qp 12 0)] [(11, some (.cells [lj 5, lj (IntKind.wrap .i64 (Int.tmod a2 64)), lj (IntKind.wrap .i64 (Int.tmod a3 64)), lj 0, ls be, lj 0, ls be, lj 0, ls be, lj 0, ls be])), (12, some (.cells [lj 0, lj 2, lnil, .osl 39 0 0 (l2).length, lnil, lnil])), (39, some (.arr 44 Hand.cod.sz 0 (l2).length (getOf Hand.cod l2)))] (F6_j3 n a0 a1 a2 a3 l2) (QF false pc6_r 0 F6_e) := by
    unfold F6_j3
    refine Sim.seq (.rg [(9, qj (iw .i64 (Int.tmod a0 16))), (10, qj (iw .i64 (Int.tmod a1 16))), (11, qp 11 0), (12, qp 12 0)] [(11, some (.cells [lj 5, lj (iw .i64 (Int.tmod a2 64)), lj (iw .i64 (Int.tmod a3 64)), lj 0, ls be, lj 0, ls be, lj 0, ls be, lj 0, ls be])), (12, some (.cells [lj 0, lj 2, lnil, .osl 39 0 0 (l2).length, lnil, lnil])), (39, some (.arr 44 Hand.cod.sz 0 (l2).length (getOf Hand.cod l2)))] (.rd 6 [(14, qp 14 0), (13, qp 13 0), (54, .agg [lj 0, lj 2, lnil, .osl 39 0 0 (l2).length, lnil, lnil]), (53, .agg [lj 0, lj 2, lnil, .osl 39 0 0 (l2).length, lnil, lnil])] [(14, some (.cells [lj 0, lj 2, lnil, .osl 39 0 0 (l2).length, lnil, lnil])), (13, some (.cells [lj 0, lj 2, lnil, .osl 39 0 0 (l2).length, lnil, lnil])), (14, some (.cells [lj 0, lj 0, lnil, lnil, lnil, lnil])), (13, some (.cells [lj 0, lj 0, lnil, lnil, lnil, lnil]))] (.thenN (.sr 4 [(57, qp 13 4), (56, .one (vw Thing.cod [(Thing.mk 5 (Point.mk (iw .i64 (Int.tmod a2 64)) (iw .i64 (Int.tmod a3 64))) (A4.mk (Field.mk 0 be) (Field.mk 0 be) (Field.mk 0 be) (Field.mk 0 be)))])), (55, .agg [lj 5, lj (iw .i64 (Int.tmod a2 64)), lj (iw .i64 (Int.tmod a3 64)), lj 0, ls be, lj 0, ls be, lj 0, ls be, lj 0, ls be])] [(13, some (.cells [lj 0, lj 2, lnil, .osl 39 0 0 (l2).length, vw Thing.cod [(Thing.mk 5 (Point.mk (iw .i64 (Int.tmod a2 64)) (iw .i64 (Int.tmod a3 64))) (A4.mk (Field.mk 0 be) (Field.mk 0 be) (Field.mk 0 be) (Field.mk 0 be)))], lnil]))] (.sr 4 [(60, qp 14 2), (59, .one (vw Thing.cod [(Thing.mk 5 (Point.mk (iw .i64 (Int.tmod a2 64)) (iw .i64 (Int.tmod a3 64))) (A4.mk (Field.mk 0 be) (Field.mk 0 be) (Field.mk 0 be) (Field.mk 0 be)))])), (58, .agg [lj 5, lj (iw .i64 (Int.tmod a2 64)), lj (iw .i64 (Int.tmod a3 64)), lj 0, ls be, lj 0, ls be, lj 0, ls be, lj 0, ls be])] [(14, some (.cells [lj 0, lj 2, vw Thing.cod [(Thing.mk 5 (Point.mk (iw .i64 (Int.tmod a2 64)) (iw .i64 (Int.tmod a3 64))) (A4.mk (Field.mk 0 be) (Field.mk 0 be) (Field.mk 0 be) (Field.mk 0 be)))], .osl 39 0 0 (l2).length, lnil, lnil]))] (.sr 10 [(16, qj (iw .i64 (Int.tdiv (iw .i64 (Int.tmod a3 64)) 16))), (15, qj (iw .i64 (Int.tdiv (iw .i64 (Int.tmod a2 64)) 16))), (68, qj (iw .i64 (Int.tdiv (iw .i64 (Int.tmod a3 64)) 16))), (67, qj (iw .i64 (Int.tmod a3 64))), (66, qp 11 2), (65, qp 11 1), (64, qj (iw .i64 (Int.tdiv (iw .i64 (Int.tmod a2 64)) 16))), (63, qj (iw .i64 (Int.tmod a2 64))), (62, qp 11 1), (61, qp 11 1)] [] (.sr 15 [(17, qj (bitsI .or .i64 (bitsI .or .i64 (bitsI .or .i64 (bitsI .and .i64 (iw .i64 (Int.tdiv (iw .i64 (Int.tmod a2 64)) 16)) 1) (shlI .i64 (bitsI .and .i64 (iw .i64 (Int.tdiv (iw .i64 (Int.tmod a3 64)) 16)) 1) 1)) (shlI .i64 (bitsI .and .i64 (iw .i64 (Int.tdiv (iw .i64 (Int.tmod a2 64)) 16)) 2) 1)) (shlI .i64 (bitsI .and .i64 (iw .i64 (Int.tdiv (iw .i64 (Int.tmod a3 64)) 16)) 2) 2))), (82, qj (bitsI .or .i64 (bitsI .or .i64 (bitsI .or .i64 (bitsI .and .i64 (iw .i64 (Int.tdiv (iw .i64 (Int.tmod a2 64)) 16)) 1) (shlI .i64 (bitsI .and .i64 (iw .i64 (Int.tdiv (iw .i64 (Int.tmod a3 64)) 16)) 1) 1)) (shlI .i64 (bitsI .and .i64 (iw .i64 (Int.tdiv (iw .i64 (Int.tmod a2 64)) 16)) 2) 1)) (shlI .i64 (bitsI .and .i64 (iw .i64 (Int.tdiv (iw .i64 (Int.tmod a3 64)) 16)) 2) 2))), (81, qj (shlI .i64 (bitsI .and .i64 (iw .i64 (Int.tdiv (iw .i64 (Int.tmod a3 64)) 16)) 2) 2)), (80, qj (bitsI .and .i64 (iw .i64 (Int.tdiv (iw .i64 (Int.tmod a3 64)) 16)) 2)), (79, qj (iw .i64 (Int.tdiv (iw .i64 (Int.tmod a3 64)) 16))), (78, qj (bitsI .or .i64 (bitsI .or .i64 (bitsI .and .i64 (iw .i64 (Int.tdiv (iw .i64 (Int.tmod a2 64)) 16)) 1) (shlI .i64 (bitsI .and .i64 (iw .i64 (Int.tdiv (iw .i64 (Int.tmod a3 64)) 16)) 1) 1)) (shlI .i64 (bitsI .and .i64 (iw .i64 (Int.tdiv (iw .i64 (Int.tmod a2 64)) 16)) 2) 1))), (77, qj (shlI .i64 (bitsI .and .i64 (iw .i64 (Int.tdiv (iw .i64 (Int.tmod a2 64)) 16)) 2) 1)), (76, qj (bitsI .and .i64 (iw .i64 (Int.tdiv (iw .i64 (Int.tmod a2 64)) 16)) 2)), (75, qj (iw .i64 (Int.tdiv (iw .i64 (Int.tmod a2 64)) 16))), (74, qj (bitsI .or .i64 (bitsI .and .i64 (iw .i64 (Int.tdiv (iw .i64 (Int.tmod a2 64)) 16)) 1) (shlI .i64 (bitsI .and .i64 (iw .i64 (Int.tdiv (iw .i64 (Int.tmod a3 64)) 16)) 1) 1))), (73, qj (shlI .i64 (bitsI .and .i64 (iw .i64 (Int.tdiv (iw .i64 (Int.tmod a3 64)) 16)) 1) 1)), (72, qj (bitsI .and .i64 (iw .i64 (Int.tdiv (iw .i64 (Int.tmod a3 64)) 16)) 1)), (71, qj (iw .i64 (Int.tdiv (iw .i64 (Int.tmod a3 64)) 16))), (70, qj (bitsI .and .i64 (iw .i64 (Int.tdiv (iw .i64 (Int.tmod a2 64)) 16)) 1)), (69, qj (iw .i64 (Int.tdiv (iw .i64 (Int.tmod a2 64)) 16)))] [] (.st 4 [(86, qb ((bitsI .or .i64 (bitsI .or .i64 (bitsI .or .i64 (bitsI .and .i64 (iw .i64 (Int.tdiv (iw .i64 (Int.tmod a2 64)) 16)) 1) (shlI .i64 (bitsI .and .i64 (iw .i64 (Int.tdiv (iw .i64 (Int.tmod a3 64)) 16)) 1) 1)) (shlI .i64 (bitsI .and .i64 (iw .i64 (Int.tdiv (iw .i64 (Int.tmod a2 64)) 16)) 2) 1)) (shlI .i64 (bitsI .and .i64 (iw .i64 (Int.tdiv (iw .i64 (Int.tmod a3 64)) 16)) 2) 2)) == (iw .i64 (Int.tmod a0 16)))), (85, qb ((bitsI .or .i64 (bitsI .or .i64 (bitsI .or .i64 (bitsI .and .i64 (iw .i64 (Int.tdiv (iw .i64 (Int.tmod a2 64)) 16)) 1) (shlI .i64 (bitsI .and .i64 (iw .i64 (Int.tdiv (iw .i64 (Int.tmod a3 64)) 16)) 1) 1)) (shlI .i64 (bitsI .and .i64 (iw .i64 (Int.tdiv (iw .i64 (Int.tmod a2 64)) 16)) 2) 1)) (shlI .i64 (bitsI .and .i64 (iw .i64 (Int.tdiv (iw .i64 (Int.tmod a3 64)) 16)) 2) 2)) == (iw .i64 (Int.tmod a0 16)))), (84, qj (iw .i64 (Int.tmod a0 16))), (83, qj (bitsI .or .i64 (bitsI .or .i64 (bitsI .or .i64 (bitsI .and .i64 (iw .i64 (Int.tdiv (iw .i64 (Int.tmod a2 64)) 16)) 1) (shlI .i64 (bitsI .and .i64 (iw .i64 (Int.tdiv (iw .i64 (Int.tmod a3 64)) 16)) 1) 1)) (shlI .i64 (bitsI .and .i64 (iw .i64 (Int.tdiv (iw .i64 (Int.tmod a2 64)) 16)) 2) 1)) (shlI .i64 (bitsI .and .i64 (iw .i64 (Int.tdiv (iw .i64 (Int.tmod a3 64)) 16)) 2) 2)))] [] (.split 86 ((bitsI .or .i64 (bitsI .or .i64 (bitsI .or .i64 (bitsI .and .i64 (iw .i64 (Int.tdiv (iw .i64 (Int.tmod a2 64)) 16)) 1) (shlI .i64 (bitsI .and .i64 (iw .i64 (Int.tdiv (iw .i64 (Int.tmod a3 64)) 16)) 1) 1)) (shlI .i64 (bitsI .and .i64 (iw .i64 (Int.tdiv (iw .i64 (Int.tmod a2 64)) 16)) 2) 1)) (shlI .i64 (bitsI .and .i64 (iw .i64 (Int.tdiv (iw .i64 (Int.tmod a3 64)) 16)) 2) 2)) == (iw .i64 (Int.tmod a0 16))) (by kernel_rfl) ?_ ?_)))))))))
    · refine SimI.rd 5 [(18, qb true), (90, qb true), (89, tz), (88, tz), (87, tz)] [] (.thenN (.pr [12, 13, 14, 18] [11, 12, 13, 14, 39] [] [(12, qp 12 0), (13, qp 13 0), (14, qp 14 0), (18, qb true)] [(12, some (.cells [lj 0, lj 2, lnil, .osl 39 0 0 (l2).length, lnil, lnil])), (13, some (.cells [lj 0, lj 2, lnil, .osl 39 0 0 (l2).length, vw Thing.cod [(Thing.mk 5 (Point.mk (iw .i64 (Int.tmod a2 64)) (iw .i64 (Int.tmod a3 64))) (A4.mk (Field.mk 0 be) (Field.mk 0 be) (Field.mk 0 be) (Field.mk 0 be)))], lnil])), (14, some (.cells [lj 0, lj 2, vw Thing.cod [(Thing.mk 5 (Point.mk (iw .i64 (Int.tmod a2 64)) (iw .i64 (Int.tmod a3 64))) (A4.mk (Field.mk 0 be) (Field.mk 0 be) (Field.mk 0 be) (Field.mk 0 be)))], .osl 39 0 0 (l2).length, lnil, lnil])), (39, some (.arr 44 Hand.cod.sz 0 (l2).length (getOf Hand.cod l2)))] ?_))
      exact F6_j5_ok n a2 a3 l2 true
    · refine SimI.rd 5 [(18, qb ((bitsI .or .i64 (bitsI .or .i64 (bitsI .or .i64 (bitsI .and .i64 (iw .i64 (Int.tdiv (iw .i64 (Int.tmod a2 64)) 16)) 1) (shlI .i64 (bitsI .and .i64 (iw .i64 (Int.tdiv (iw .i64 (Int.tmod a3 64)) 16)) 1) 1)) (shlI .i64 (bitsI .and .i64 (iw .i64 (Int.tdiv (iw .i64 (Int.tmod a2 64)) 16)) 2) 1)) (shlI .i64 (bitsI .and .i64 (iw .i64 (Int.tdiv (iw .i64 (Int.tmod a3 64)) 16)) 2) 2)) == (iw .i64 (Int.tmod a1 16)))), (90, qb ((bitsI .or .i64 (bitsI .or .i64 (bitsI .or .i64 (bitsI .and .i64 (iw .i64 (Int.tdiv (iw .i64 (Int.tmod a2 64)) 16)) 1) (shlI .i64 (bitsI .and .i64 (iw .i64 (Int.tdiv (iw .i64 (Int.tmod a3 64)) 16)) 1) 1)) (shlI .i64 (bitsI .and .i64 (iw .i64 (Int.tdiv (iw .i64 (Int.tmod a2 64)) 16)) 2) 1)) (shlI .i64 (bitsI .and .i64 (iw .i64 (Int.tdiv (iw .i64 (Int.tmod a3 64)) 16)) 2) 2)) == (iw .i64 (Int.tmod a1 16)))), (89, qb ((bitsI .or .i64 (bitsI .or .i64 (bitsI .or .i64 (bitsI .and .i64 (iw .i64 (Int.tdiv (iw .i64 (Int.tmod a2 64)) 16)) 1) (shlI .i64 (bitsI .and .i64 (iw .i64 (Int.tdiv (iw .i64 (Int.tmod a3 64)) 16)) 1) 1)) (shlI .i64 (bitsI .and .i64 (iw .i64 (Int.tdiv (iw .i64 (Int.tmod a2 64)) 16)) 2) 1)) (shlI .i64 (bitsI .and .i64 (iw .i64 (Int.tdiv (iw .i64 (Int.tmod a3 64)) 16)) 2) 2)) == (iw .i64 (Int.tmod a1 16)))), (88, qj (iw .i64 (Int.tmod a1 16))), (87, qj (bitsI .or .i64 (bitsI .or .i64 (bitsI .or .i64 (bitsI .and .i64 (iw .i64 (Int.tdiv (iw .i64 (Int.tmod a2 64)) 16)) 1) (shlI .i64 (bitsI .and .i64 (iw .i64 (Int.tdiv (iw .i64 (Int.tmod a3 64)) 16)) 1) 1)) (shlI .i64 (bitsI .and .i64 (iw .i64 (Int.tdiv (iw .i64 (Int.tmod a2 64)) 16)) 2) 1)) (shlI .i64 (bitsI .and .i64 (iw .i64 (Int.tdiv (iw .i64 (Int.tmod a3 64)) 16)) 2) 2)))] [] (.thenN (.pr [12, 13, 14, 18] [11, 12, 13, 14, 39] [] [(12, qp 12 0), (13, qp 13 0), (14, qp 14 0), (18, qb ((bitsI .or .i64 (bitsI .or .i64 (bitsI .or .i64 (bitsI .and .i64 (iw .i64 (Int.tdiv (iw .i64 (Int.tmod a2 64)) 16)) 1) (shlI .i64 (bitsI .and .i64 (iw .i64 (Int.tdiv (iw .i64 (Int.tmod a3 64)) 16)) 1) 1)) (shlI .i64 (bitsI .and .i64 (iw .i64 (Int.tdiv (iw .i64 (Int.tmod a2 64)) 16)) 2) 1)) (shlI .i64 (bitsI .and .i64 (iw .i64 (Int.tdiv (iw .i64 (Int.tmod a3 64)) 16)) 2) 2)) == (iw .i64 (Int.tmod a1 16))))] [(12, some (.cells [lj 0, lj 2, lnil, .osl 39 0 0 (l2).length, lnil, lnil])), (13, some (.cells [lj 0, lj 2, lnil, .osl 39 0 0 (l2).length, vw Thing.cod [(Thing.mk 5 (Point.mk (iw .i64 (Int.tmod a2 64)) (iw .i64 (Int.tmod a3 64))) (A4.mk (Field.mk 0 be) (Field.mk 0 be) (Field.mk 0 be) (Field.mk 0 be)))], lnil])), (14, some (.cells [lj 0, lj 2, vw Thing.cod [(Thing.mk 5 (Point.mk (iw .i64 (Int.tmod a2 64)) (iw .i64 (Int.tmod a3 64))) (A4.mk (Field.mk 0 be) (Field.mk 0 be) (Field.mk 0 be) (Field.mk 0 be)))], .osl 39 0 0 (l2).length, lnil, lnil])), (39, some (.arr 44 Hand.cod.sz 0 (l2).length (getOf Hand.cod l2)))] ?_))
      exact F6_j5_ok n a2 a3 l2 ((bitsI .or .i64 (bitsI .or .i64 (bitsI .or .i64 (bitsI .and .i64 (iw .i64 (Int.tdiv (iw .i64 (Int.tmod a2 64)) 16)) 1) (shlI .i64 (bitsI .and .i64 (iw .i64 (Int.tdiv (iw .i64 (Int.tmod a3 64)) 16)) 1) 1)) (shlI .i64 (bitsI .and .i64 (iw .i64 (Int.tdiv (iw .i64 (Int.tmod a2 64)) 16)) 2) 1)) (shlI .i64 (bitsI .and .i64 (iw .i64 (Int.tdiv (iw .i64 (Int.tmod a3 64)) 16)) 2) 2)) == (iw .i64 (Int.tmod a1 16)))

def F6 (n : Nat) (a0 : Int) (a1 : Int) (a2 : Int) (a3 : Int) : Option Bool :=
  ((some true)).bind fun (r1 : Bool) =>
  if !(r1) then
    some false
  else
    if (IntKind.wrap .i64 (Int.tmod a0 16)) != (IntKind.wrap .i64 (Int.tmod a1 16)) then
      if (([(Hand.mk (imin (IntKind.wrap .i64 (Int.tmod a0 16)) (IntKind.wrap .i64 (Int.tmod a1 16))) 1)]).length + 1) * 16 ≤ maxCells ∧ ([(Hand.mk (imin (IntKind.wrap .i64 (Int.tmod a0 16)) (IntKind.wrap .i64 (Int.tmod a1 16))) 1)]).length + 1 ≤ maxCells then
        F6_j3 n a0 a1 a2 a3 ([(Hand.mk (imin (IntKind.wrap .i64 (Int.tmod a0 16)) (IntKind.wrap .i64 (Int.tmod a1 16))) 1)] ++ [(Hand.mk (imax (IntKind.wrap .i64 (Int.tmod a0 16)) (IntKind.wrap .i64 (Int.tmod a1 16))) 1)])
      else none
    else
      F6_j3 n a0 a1 a2 a3 [(Hand.mk (imin (IntKind.wrap .i64 (Int.tmod a0 16)) (IntKind.wrap .i64 (Int.tmod a1 16))) 1)]
theorem F6_ok (n : Nat) (a0 : Int) (a1 : Int) (a2 : Int) (a3 : Int) : ∀ r, F6 n a0 a1 a2 a3 = some r → D 6 [.one (li .u8 a0), .one (li .u8 a1), .one (li .u8 a2), .one (li .u8 a3)] [] = some (F6_e r) := by
  refine fn_to (D := D) (n := n + 8) (nt := 106) (rs := pc6_r) (c := p6c37) (L := [(0, .one (li .u8 a0)), (1, .one (li .u8 a1)), (2, .one (li .u8 a2)), (3, .one (li .u8 a3))]) (M := []) (k := 0) rfl rfl rfl rfl rfl rfl rfl ?_
  unfold F6
  refine Sim.sr 1 [(8, qb false)] [] (.seq (.seq (.region0 (.cl 19 true [] 7 [] none (fun r1 => qb r1) [] (F7_ok n) (fun r1 => ?_)))))
  refine SimI.rd 1 [(20, qb (!(r1)))] [] (.thenN (.cond (!(r1)) (by kernel_rfl) ?_ ?_))
  · exact Sim.sr 1 [(8, qb false)] [] (.ret (.thenR .fn))
  · refine Sim.skip (.thenN (.sr 8 [(10, qj (iw .i64 (Int.tmod a1 16))), (9, qj (iw .i64 (Int.tmod a0 16))), (26, qj (iw .i64 (Int.tmod a1 16))), (25, .one (li .u8 (Int.tmod a1 16))), (24, .one (li .u8 a1)), (23, qj (iw .i64 (Int.tmod a0 16))), (22, .one (li .u8 (Int.tmod a0 16))), (21, .one (li .u8 a0))] [] (.sr 10 [(11, qp 11 0), (34, .agg [lj 5, lj (iw .i64 (Int.tmod a2 64)), lj (iw .i64 (Int.tmod a3 64)), lj 0, ls be, lj 0, ls be, lj 0, ls be, lj 0, ls be]), (33, .agg [lj (iw .i64 (Int.tmod a2 64)), lj (iw .i64 (Int.tmod a3 64))]), (32, qj (iw .i64 (Int.tmod a3 64))), (31, .one (li .u8 (Int.tmod a3 64))), (30, .one (li .u8 a3)), (29, qj (iw .i64 (Int.tmod a2 64))), (28, .one (li .u8 (Int.tmod a2 64))), (27, .one (li .u8 a2))] [(11, some (.cells [lj 5, lj (iw .i64 (Int.tmod a2 64)), lj (iw .i64 (Int.tmod a3 64)), lj 0, ls be, lj 0, ls be, lj 0, ls be, lj 0, ls be])), (11, some (.cells [lj 0, lj 0, lj 0, lj 0, ls be, lj 0, ls be, lj 0, ls be, lj 0, ls be]))] (.sr 8 [(12, qp 12 0), (40, .agg [lj 0, lj 2, lnil, .osl 39 0 0 ([(Hand.mk (imin (iw .i64 (Int.tmod a0 16)) (iw .i64 (Int.tmod a1 16))) 1)]).length, lnil, lnil]), (39, .one (.osl 39 0 0 ([(Hand.mk (imin (iw .i64 (Int.tmod a0 16)) (iw .i64 (Int.tmod a1 16))) 1)]).length)), (38, .agg [lj (imin (iw .i64 (Int.tmod a0 16)) (iw .i64 (Int.tmod a1 16))), lj 1]), (37, qj (imin (iw .i64 (Int.tmod a0 16)) (iw .i64 (Int.tmod a1 16)))), (36, qj (iw .i64 (Int.tmod a1 16))), (35, qj (iw .i64 (Int.tmod a0 16)))] [(12, some (.cells [lj 0, lj 2, lnil, .osl 39 0 0 ([(Hand.mk (imin (iw .i64 (Int.tmod a0 16)) (iw .i64 (Int.tmod a1 16))) 1)]).length, lnil, lnil])), (12, some (.cells [lj 0, lj 0, lnil, lnil, lnil, lnil])), (39, some (.arr 44 Hand.cod.sz 0 ([(Hand.mk (imin (iw .i64 (Int.tmod a0 16)) (iw .i64 (Int.tmod a1 16))) 1)]).length (getOf Hand.cod [(Hand.mk (imin (iw .i64 (Int.tmod a0 16)) (iw .i64 (Int.tmod a1 16))) 1)])))] (.seq (.sr 3 [(43, qb ((iw .i64 (Int.tmod a0 16)) != (iw .i64 (Int.tmod a1 16)))), (42, qj (iw .i64 (Int.tmod a1 16))), (41, qj (iw .i64 (Int.tmod a0 16)))] [] (.cond ((iw .i64 (Int.tmod a0 16)) != (iw .i64 (Int.tmod a1 16))) (by kernel_rfl) ?_ ?_)))))))
    · refine Sim.region0 (.rn 7 [(50, .one (vw Hand.cod [(Hand.mk (imax (iw .i64 (Int.tmod a0 16)) (iw .i64 (Int.tmod a1 16))) 1)])), (49, .agg [lj (imax (iw .i64 (Int.tmod a0 16)) (iw .i64 (Int.tmod a1 16))), lj 1]), (48, qj (imax (iw .i64 (Int.tmod a0 16)) (iw .i64 (Int.tmod a1 16)))), (47, qj (iw .i64 (Int.tmod a1 16))), (46, qj (iw .i64 (Int.tmod a0 16))), (45, .one (.osl 39 0 0 ([(Hand.mk (imin (iw .i64 (Int.tmod a0 16)) (iw .i64 (Int.tmod a1 16))) 1)]).length)), (44, qp 12 3)] [] (.guard (c := (([(Hand.mk (imin (iw .i64 (Int.tmod a0 16)) (iw .i64 (Int.tmod a1 16))) 1)]).length + 1) * 16 ≤ maxCells ∧ ([(Hand.mk (imin (iw .i64 (Int.tmod a0 16)) (iw .i64 (Int.tmod a1 16))) 1)]).length + 1 ≤ maxCells) ⟨some 51, POp.app 100045 44 2 16 (Operand.tmp 45) (Operand.tmp 50), none, []⟩ [(51, .one (.osl 39 (0 + 1) 0 (([(Hand.mk (imin (iw .i64 (Int.tmod a0 16)) (iw .i64 (Int.tmod a1 16))) 1)] ++ [(Hand.mk (imax (iw .i64 (Int.tmod a0 16)) (iw .i64 (Int.tmod a1 16))) 1)])).length))] [(39, some (.arr 44 Hand.cod.sz (0 + 1) (([(Hand.mk (imin (iw .i64 (Int.tmod a0 16)) (iw .i64 (Int.tmod a1 16))) 1)] ++ [(Hand.mk (imax (iw .i64 (Int.tmod a0 16)) (iw .i64 (Int.tmod a1 16))) 1)])).length (getOf Hand.cod ([(Hand.mk (imin (iw .i64 (Int.tmod a0 16)) (iw .i64 (Int.tmod a1 16))) 1)] ++ [(Hand.mk (imax (iw .i64 (Int.tmod a0 16)) (iw .i64 (Int.tmod a1 16))) 1)]))))] (by kernel_rfl) (fun hc => pOp_eff (by kernel_rfl) (by kernel_rfl) (eff_appO (c := Hand.cod) (g := 0) (l := [(Hand.mk (imin (iw .i64 (Int.tmod a0 16)) (iw .i64 (Int.tmod a1 16))) 1)]) (a := (Hand.mk (imax (iw .i64 (Int.tmod a0 16)) (iw .i64 (Int.tmod a1 16))) 1)) (by kernel_rfl) (by kernel_rfl) (by kernel_rfl) (by kernel_rfl) hc)) (.rd 2 [(52, qp 12 3)] [(12, some (.cells [lj 0, lj 2, lnil, .osl 39 (0 + 1) 0 (([(Hand.mk (imin (iw .i64 (Int.tmod a0 16)) (iw .i64 (Int.tmod a1 16))) 1)] ++ [(Hand.mk (imax (iw .i64 (Int.tmod a0 16)) (iw .i64 (Int.tmod a1 16))) 1)])).length, lnil, lnil]))] (.thenN (.pr [9, 10, 11, 12] [11, 12, 39] [] [(9, qj (iw .i64 (Int.tmod a0 16))), (10, qj (iw .i64 (Int.tmod a1 16))), (11, qp 11 0), (12, qp 12 0)] [(11, some (.cells [lj 5, lj (iw .i64 (Int.tmod a2 64)), lj (iw .i64 (Int.tmod a3 64)), lj 0, ls be, lj 0, ls be, lj 0, ls be, lj 0, ls be])), (12, some (.cells [lj 0, lj 2, lnil, .osl 39 0 0 (([(Hand.mk (imin (iw .i64 (Int.tmod a0 16)) (iw .i64 (Int.tmod a1 16))) 1)] ++ [(Hand.mk (imax (iw .i64 (Int.tmod a0 16)) (iw .i64 (Int.tmod a1 16))) 1)])).length, lnil, lnil])), (39, some (.arr 44 Hand.cod.sz 0 (([(Hand.mk (imin (iw .i64 (Int.tmod a0 16)) (iw .i64 (Int.tmod a1 16))) 1)] ++ [(Hand.mk (imax (iw .i64 (Int.tmod a0 16)) (iw .i64 (Int.tmod a1 16))) 1)])).length (getOf Hand.cod ([(Hand.mk (imin (iw .i64 (Int.tmod a0 16)) (iw .i64 (Int.tmod a1 16))) 1)] ++ [(Hand.mk (imax (iw .i64 (Int.tmod a0 16)) (iw .i64 (Int.tmod a1 16))) 1)]))))] ?_)))))
      exact F6_j3_ok n a0 a1 a2 a3 ([(Hand.mk (imin (iw .i64 (Int.tmod a0 16)) (iw .i64 (Int.tmod a1 16))) 1)] ++ [(Hand.mk (imax (iw .i64 (Int.tmod a0 16)) (iw .i64 (Int.tmod a1 16))) 1)])
    · refine Sim.skip (.thenN (.pr [9, 10, 11, 12] [11, 12, 39] [] [(9, qj (iw .i64 (Int.tmod a0 16))), (10, qj (iw .i64 (Int.tmod a1 16))), (11, qp 11 0), (12, qp 12 0)] [(11, some (.cells [lj 5, lj (iw .i64 (Int.tmod a2 64)), lj (iw .i64 (Int.tmod a3 64)), lj 0, ls be, lj 0, ls be, lj 0, ls be, lj 0, ls be])), (12, some (.cells [lj 0, lj 2, lnil, .osl 39 0 0 ([(Hand.mk (imin (iw .i64 (Int.tmod a0 16)) (iw .i64 (Int.tmod a1 16))) 1)]).length, lnil, lnil])), (39, some (.arr 44 Hand.cod.sz 0 ([(Hand.mk (imin (iw .i64 (Int.tmod a0 16)) (iw .i64 (Int.tmod a1 16))) 1)]).length (getOf Hand.cod [(Hand.mk (imin (iw .i64 (Int.tmod a0 16)) (iw .i64 (Int.tmod a1 16))) 1)])))] ?_))
      exact F6_j3_ok n a0 a1 a2 a3 [(Hand.mk (imin (iw .i64 (Int.tmod a0 16)) (iw .i64 (Int.tmod a1 16))) 1)]


-- 57: vedette/vedetteref6.IsField
def F57_e : Bool → PV × List Ob := fun r => (.one (lb r), [])
def F57 (n : Nat) (a0 : Field) : Option Bool :=
  if a0.N == 0 then
    some (decide ((a0.Text.size : Int) ≤ 12))
  else
    if a0.Text.toList == ByteArray.empty.toList then
      some (decide ((a0.Text.size : Int) ≤ 12))
    else
      some false
theorem F57_ok (n : Nat) (a0 : Field) : ∀ r, F57 n a0 = some r → D 57 [.agg [li .i64 a0.N, ls a0.Text]] [] = some (F57_e r) := by
  refine fn_to (D := D) (n := n + 8) (nt := 17) (rs := pc57_r) (c := p57c5) (L := [(0, .agg [lj a0.N, ls a0.Text])]) (M := []) (k := 0) rfl rfl rfl rfl rfl rfl rfl ?_
  unfold F57
  refine Sim.sr 2 [(2, qb false), (1, qp 1 0)] [(1, some (.cells [lj a0.N, ls a0.Text]))] (.st 4 [(6, qb (a0.N == 0)), (5, qb (a0.N == 0)), (4, qj a0.N), (3, qp 1 0)] [] (.split 6 (a0.N == 0) (by kernel_rfl) ?_ ?_))
  · exact SimI.rd 11 [(2, qb (decide ((a0.Text.size : Int) ≤ 12))), (16, qb (decide ((a0.Text.size : Int) ≤ 12))), (15, qb (decide ((a0.Text.size : Int) ≤ 12))), (14, qj (a0.Text.size : Int)), (13, qs a0.Text), (12, qp 1 1), (11, qb true), (10, qb true), (9, tz), (8, tz), (7, tz)] [] (.thenN (.ret .fn))
  · refine SimI.rn 5 (w8 a0) [] (.split 11 (a0.Text.toList == be.toList) (by kernel_rfl) ?_ ?_)
    · exact SimI.rd 6 (w9 a0) [] (.thenN (.ret .fn))
    · exact SimI.rd 6 [(2, qb false), (16, qb false), (15, tz), (14, tz), (13, tz), (12, tz)] [] (.thenN (.ret .fn))


-- 58: vedette/vedetteref3.On
def F58_e : Bool → PV × List Ob := fun r => (.one (lb r), [])
def F58 (n : Nat) (a0 : Point) : Option Bool :=
  if decide ((0 : Int) ≤ a0.X) then
    if decide (a0.X < 64) then
      if decide ((0 : Int) ≤ a0.Y) then
        some (decide (a0.Y < 64))
      else
        some false
    else
      some false
  else
    some false
theorem F58_ok (n : Nat) (a0 : Point) : ∀ r, F58 n a0 = some r → D 58 [.agg [li .i64 a0.X, li .i64 a0.Y]] [] = some (F58_e r) := by
  refine fn_to (D := D) (n := n + 8) (nt := 21) (rs := pc58_r) (c := p58c5) (L := [(0, .agg [lj a0.X, lj a0.Y])]) (M := []) (k := 0) rfl rfl rfl rfl rfl rfl rfl ?_
  unfold F58
  refine Sim.sr 2 [(2, qb false), (1, qp 1 0)] [(1, some (.cells [lj a0.X, lj a0.Y]))] (.st 4 (w14 a0) [] (.split 6 (decide ((0 : Int) ≤ a0.X)) (by kernel_rfl) ?_ ?_))
  · refine SimI.rn 5 (w15 a0) [] (.split 11 (decide (a0.X < 64)) (by kernel_rfl) ?_ ?_)
    · refine SimI.rn 5 (w16 a0) [] (.split 16 (decide ((0 : Int) ≤ a0.Y)) (by kernel_rfl) ?_ ?_)
      · exact SimI.rd 5 (w17 a0) [] (.thenN (.ret .fn))
      · exact SimI.rd 5 [(2, qb false), (20, qb false), (19, tz), (18, tz), (17, tz)] [] (.thenN (.ret .fn))
    · exact SimI.rd 10 [(2, qb false), (20, qb false), (19, tz), (18, tz), (17, tz), (16, qb false), (15, qb false), (14, tz), (13, tz), (12, tz)] [] (.thenN (.ret .fn))
  · exact SimI.rd 15 [(2, qb false), (20, qb false), (19, tz), (18, tz), (17, tz), (16, qb false), (15, qb false), (14, tz), (13, tz), (12, tz), (11, qb false), (10, qb false), (9, tz), (8, tz), (7, tz)] [] (.thenN (.ret .fn))


-- 52: vedette/vedetteref6.Is
def F52_e : Bool → PV × List Ob := fun r => (.one (lb r), [])
def F52_u15 (n : Nat) (b14 : Bool) : Option Bool :=
    some b14
theorem F52_u15_ok (n : Nat) (a0 : Thing) (b14 : Bool) : SimL Try.prog D (n + 8) (n + 4) p52c13 [(1, qp 1 0), (3, qb b14), (4, qj 4)] [(1, some (.cells (Thing.cells a0)))] (F52_u15 n b14) (QB 0 (QT Try.prog D (n + 8) p52c19 (QF false pc52_r 0 F52_e))) := by
    unfold F52_u15
    exact SimL.succ (.seq (.seq (.rg [(1, qp 1 0), (3, qb b14), (4, qj 4)] [(1, some (.cells (Thing.cells a0)))] (.rd 2 [(19, qb false), (18, qj 4)] [] (.thenN (.condF (by kernel_rfl) (.exit (.thenX (.loopX (.blockX (.thenN (.sr 2 [(2, qb b14), (30, qb b14)] [] (.ret .fn)))))))))))))

def F52_u12 (n : Nat) (a0 : Thing) (b11 : Bool) : Option Bool :=
    if b11 then
      (F57 n a0.F.a3).bind fun (r13 : Bool) =>
      F52_u15 n r13
    else
      F52_u15 n false
theorem F52_u12_ok (n : Nat) (a0 : Thing) (b11 : Bool) : SimL Try.prog D (n + 8) (n + 5) p52c13 [(1, qp 1 0), (3, qb b11), (4, qj 3)] [(1, some (.cells (Thing.cells a0)))] (F52_u12 n a0 b11) (QB 0 (QT Try.prog D (n + 8) p52c19 (QF false pc52_r 0 F52_e))) := by
    unfold F52_u12
    refine SimL.succ (.seq (.seq (.rg [(1, qp 1 0), (3, qb b11), (4, qj 3)] [(1, some (.cells (Thing.cells a0)))] (.rd 2 [(19, qb true), (18, qj 3)] [] (.thenN (.condT (by kernel_rfl) (.skip (.thenN (.seq (.block (.region0 (.rn 2 [(23, qb b11), (22, qb b11)] [] (.split 23 b11 (by kernel_rfl) ?_ ?_)))))))))))))
    · refine SimI.rn 4 [(27, .agg [lj a0.F.a3.N, ls a0.F.a3.Text]), (26, qp 1 9), (25, qp 1 3), (24, qj 3)] [] (.cl 28 true [[]] 57 [27] (some (23, true)) (fun r13 => qb r13) [.agg [lj a0.F.a3.N, ls a0.F.a3.Text]] (F57_ok n a0.F.a3) (fun r13 => ?_))
      refine SimI.rd 2 [(3, qb r13), (29, qb r13)] [] (.blockN (.thenN (.region0 (.rd 3 [(4, qj 4), (21, qj 4), (20, qj 3)] [] (.loopN (.pr [1, 3, 4] [1] [] [(1, qp 1 0), (3, qb r13), (4, qj 4)] [(1, some (.cells (Thing.cells a0)))] ?_))))))
      exact F52_u15_ok n a0 r13
    · refine SimI.rd 7 [(3, qb false), (29, qb false), (28, tz), (27, tz), (26, tz), (25, tz), (24, tz)] [] (.blockN (.thenN (.region0 (.rd 3 [(4, qj 4), (21, qj 4), (20, qj 3)] [] (.loopN (.pr [1, 3, 4] [1] [] [(1, qp 1 0), (3, qb false), (4, qj 4)] [(1, some (.cells (Thing.cells a0)))] ?_))))))
      exact F52_u15_ok n a0 false

def F52_u9 (n : Nat) (a0 : Thing) (b8 : Bool) : Option Bool :=
    if b8 then
      (F57 n a0.F.a2).bind fun (r10 : Bool) =>
      F52_u12 n a0 r10
    else
      F52_u12 n a0 false
theorem F52_u9_ok (n : Nat) (a0 : Thing) (b8 : Bool) : SimL Try.prog D (n + 8) (n + 6) p52c13 [(1, qp 1 0), (3, qb b8), (4, qj 2)] [(1, some (.cells (Thing.cells a0)))] (F52_u9 n a0 b8) (QB 0 (QT Try.prog D (n + 8) p52c19 (QF false pc52_r 0 F52_e))) := by
    unfold F52_u9
    refine SimL.succ (.seq (.seq (.rg [(1, qp 1 0), (3, qb b8), (4, qj 2)] [(1, some (.cells (Thing.cells a0)))] (.rd 2 [(19, qb true), (18, qj 2)] [] (.thenN (.condT (by kernel_rfl) (.skip (.thenN (.seq (.block (.region0 (.rn 2 [(23, qb b8), (22, qb b8)] [] (.split 23 b8 (by kernel_rfl) ?_ ?_)))))))))))))
    · refine SimI.rn 4 [(27, .agg [lj a0.F.a2.N, ls a0.F.a2.Text]), (26, qp 1 7), (25, qp 1 3), (24, qj 2)] [] (.cl 28 true [[]] 57 [27] (some (23, true)) (fun r10 => qb r10) [.agg [lj a0.F.a2.N, ls a0.F.a2.Text]] (F57_ok n a0.F.a2) (fun r10 => ?_))
      refine SimI.rd 2 [(3, qb r10), (29, qb r10)] [] (.blockN (.thenN (.region0 (.rd 3 [(4, qj 3), (21, qj 3), (20, qj 2)] [] (.loopN (.pr [1, 3, 4] [1] [] [(1, qp 1 0), (3, qb r10), (4, qj 3)] [(1, some (.cells (Thing.cells a0)))] ?_))))))
      exact F52_u12_ok n a0 r10
    · refine SimI.rd 7 [(3, qb false), (29, qb false), (28, tz), (27, tz), (26, tz), (25, tz), (24, tz)] [] (.blockN (.thenN (.region0 (.rd 3 [(4, qj 3), (21, qj 3), (20, qj 2)] [] (.loopN (.pr [1, 3, 4] [1] [] [(1, qp 1 0), (3, qb false), (4, qj 3)] [(1, some (.cells (Thing.cells a0)))] ?_))))))
      exact F52_u12_ok n a0 false

def F52_u6 (n : Nat) (a0 : Thing) (b5 : Bool) : Option Bool :=
    if b5 then
      (F57 n a0.F.a1).bind fun (r7 : Bool) =>
      F52_u9 n a0 r7
    else
      F52_u9 n a0 false
theorem F52_u6_ok (n : Nat) (a0 : Thing) (b5 : Bool) : SimL Try.prog D (n + 8) (n + 7) p52c13 [(1, qp 1 0), (3, qb b5), (4, qj 1)] [(1, some (.cells (Thing.cells a0)))] (F52_u6 n a0 b5) (QB 0 (QT Try.prog D (n + 8) p52c19 (QF false pc52_r 0 F52_e))) := by
    unfold F52_u6
    refine SimL.succ (.seq (.seq (.rg [(1, qp 1 0), (3, qb b5), (4, qj 1)] [(1, some (.cells (Thing.cells a0)))] (.rd 2 [(19, qb true), (18, qj 1)] [] (.thenN (.condT (by kernel_rfl) (.skip (.thenN (.seq (.block (.region0 (.rn 2 [(23, qb b5), (22, qb b5)] [] (.split 23 b5 (by kernel_rfl) ?_ ?_)))))))))))))
    · refine SimI.rn 4 [(27, .agg [lj a0.F.a1.N, ls a0.F.a1.Text]), (26, qp 1 5), (25, qp 1 3), (24, qj 1)] [] (.cl 28 true [[]] 57 [27] (some (23, true)) (fun r7 => qb r7) [.agg [lj a0.F.a1.N, ls a0.F.a1.Text]] (F57_ok n a0.F.a1) (fun r7 => ?_))
      refine SimI.rd 2 [(3, qb r7), (29, qb r7)] [] (.blockN (.thenN (.region0 (.rd 3 [(4, qj 2), (21, qj 2), (20, qj 1)] [] (.loopN (.pr [1, 3, 4] [1] [] [(1, qp 1 0), (3, qb r7), (4, qj 2)] [(1, some (.cells (Thing.cells a0)))] ?_))))))
      exact F52_u9_ok n a0 r7
    · refine SimI.rd 7 [(3, qb false), (29, qb false), (28, tz), (27, tz), (26, tz), (25, tz), (24, tz)] [] (.blockN (.thenN (.region0 (.rd 3 [(4, qj 2), (21, qj 2), (20, qj 1)] [] (.loopN (.pr [1, 3, 4] [1] [] [(1, qp 1 0), (3, qb false), (4, qj 2)] [(1, some (.cells (Thing.cells a0)))] ?_))))))
      exact F52_u9_ok n a0 false

def F52_j3 (n : Nat) (a0 : Thing) (b2 : Bool) : Option Bool :=
    if b2 then
      (F57 n a0.F.a0).bind fun (r4 : Bool) =>
      F52_u6 n a0 r4
    else
      F52_u6 n a0 false
theorem F52_j3_ok (n : Nat) (a0 : Thing) (b2 : Bool) : Sim Try.prog D (n + 8) p52c20 [(1, qp 1 0), (3, qb b2)] [(1, some (.cells (Thing.cells a0)))] (F52_j3 n a0 b2) (QF false pc52_r 0 F52_e) := by
    unfold F52_j3
    refine Sim.seq (.seq (.rg [(1, qp 1 0), (3, qb b2)] [(1, some (.cells (Thing.cells a0)))] (.rd 1 [(4, qj 0)] [] (.thenN (.block (.loop (.succ (.seq (.seq (.rg [(1, qp 1 0), (3, qb b2), (4, qj 0)] [(1, some (.cells (Thing.cells a0)))] (.rd 2 [(19, qb true), (18, qj 0)] [] (.thenN (.condT (by kernel_rfl) (.skip (.thenN (.seq (.block (.region0 (.rn 2 [(23, qb b2), (22, qb b2)] [] (.split 23 b2 (by kernel_rfl) ?_ ?_))))))))))))))))))))
    · refine SimI.rn 4 [(27, .agg [lj a0.F.a0.N, ls a0.F.a0.Text]), (26, qp 1 3), (25, qp 1 3), (24, qj 0)] [] (.cl 28 true [[]] 57 [27] (some (23, true)) (fun r4 => qb r4) [.agg [lj a0.F.a0.N, ls a0.F.a0.Text]] (F57_ok n a0.F.a0) (fun r4 => ?_))
      refine SimI.rd 2 [(3, qb r4), (29, qb r4)] [] (.blockN (.thenN (.region0 (.rd 3 [(4, qj 1), (21, qj 1), (20, qj 0)] [] (.loopN (.pr [1, 3, 4] [1] [] [(1, qp 1 0), (3, qb r4), (4, qj 1)] [(1, some (.cells (Thing.cells a0)))] ?_))))))
      exact F52_u6_ok n a0 r4
    · refine SimI.rd 7 [(3, qb false), (29, qb false), (28, tz), (27, tz), (26, tz), (25, tz), (24, tz)] [] (.blockN (.thenN (.region0 (.rd 3 [(4, qj 1), (21, qj 1), (20, qj 0)] [] (.loopN (.pr [1, 3, 4] [1] [] [(1, qp 1 0), (3, qb false), (4, qj 1)] [(1, some (.cells (Thing.cells a0)))] ?_))))))
      exact F52_u6_ok n a0 false

def F52 (n : Nat) (a0 : Thing) : Option Bool :=
  if decide ((0 : Int) ≤ a0.ID) then
    if decide (a0.ID ≤ 1000000) then
      (F58 n a0.At).bind fun (r1 : Bool) =>
      F52_j3 n a0 r1
    else
      F52_j3 n a0 false
  else
    F52_j3 n a0 false
theorem F52_ok (n : Nat) (a0 : Thing) : ∀ r, F52 n a0 = some r → D 52 [.agg (Thing.cells a0)] [] = some (F52_e r) := by
  refine fn_to (D := D) (n := n + 8) (nt := 31) (rs := pc52_r) (c := p52c22) (L := [(0, .agg (Thing.cells a0))]) (M := []) (k := 0) rfl rfl rfl rfl rfl rfl rfl ?_
  unfold F52
  refine Sim.sr 2 [(2, qb false), (1, qp 1 0)] [(1, some (.cells (Thing.cells a0)))] (.st 4 [(8, qb (decide ((0 : Int) ≤ a0.ID))), (7, qb (decide ((0 : Int) ≤ a0.ID))), (6, qj a0.ID), (5, qp 1 0)] [] (.split 8 (decide ((0 : Int) ≤ a0.ID)) (by kernel_rfl) ?_ ?_))
  · refine SimI.rn 5 [(13, qb (decide (a0.ID ≤ 1000000))), (12, qb (decide (a0.ID ≤ 1000000))), (11, qb (decide (a0.ID ≤ 1000000))), (10, qj a0.ID), (9, qp 1 0)] [] (.split 13 (decide (a0.ID ≤ 1000000)) (by kernel_rfl) ?_ ?_)
    · refine SimI.rn 2 [(15, .agg [lj a0.At.X, lj a0.At.Y]), (14, qp 1 1)] [] (.cl 16 true [[]] 58 [15] (some (13, true)) (fun r1 => qb r1) [.agg [lj a0.At.X, lj a0.At.Y]] (F58_ok n a0.At) (fun r1 => ?_))
      refine SimI.rd 2 [(3, qb r1), (17, qb r1)] [] (.thenN (.pr [1, 3] [1] [] [(1, qp 1 0), (3, qb r1)] [(1, some (.cells (Thing.cells a0)))] ?_))
      exact F52_j3_ok n a0 r1
    · refine SimI.rd 5 [(3, qb false), (17, qb false), (16, tz), (15, tz), (14, tz)] [] (.thenN (.pr [1, 3] [1] [] [(1, qp 1 0), (3, qb false)] [(1, some (.cells (Thing.cells a0)))] ?_))
      exact F52_j3_ok n a0 false
  · refine SimI.rd 10 [(3, qb false), (17, qb false), (16, tz), (15, tz), (14, tz), (13, qb false), (12, qb false), (11, tz), (10, tz), (9, tz)] [] (.thenN (.pr [1, 3] [1] [] [(1, qp 1 0), (3, qb false)] [(1, some (.cells (Thing.cells a0)))] ?_))
    exact F52_j3_ok n a0 false


-- 25: vedette/vedetteref17.things
def F25_e : Bool → PV × List Ob := fun r => (.one (lb r), [])
def F25_l4 (n : Nat) (a0 : (List Thing)) : Nat → Int → Option Bool
  | 0, _ => none
  | m + 1, i3 =>
    if decide (i3 < ((a0).length : Int)) then
      (ix a0 i3).bind fun (x5 : Thing) =>
      (F52 n x5).bind fun (r6 : Bool) =>
      if !(r6) then
        some false
      else
        if decide ((0 : Int) < i3) then
          (ix a0 i3).bind fun (x7 : Thing) =>
          (ix a0 (IntKind.wrap .i64 (i3 - 1))).bind fun (x8 : Thing) =>
          if decide (x7.ID ≤ x8.ID) then
            some false
          else
            (F25_l4 n a0 m) (IntKind.wrap .i64 (i3 + 1))
        else
          (F25_l4 n a0 m) (IntKind.wrap .i64 (i3 + 1))
    else
      some (decide (((a0).length : Int) ≤ 200))
theorem F25_l4_ok (n : Nat) (a0 : (List Thing)) : ∀ (m : Nat) (i3 : Int), SimL Try.prog D (n + 8) m p25c18 [(0, .one (vw Thing.cod a0)), (3, qj i3)] [] (F25_l4 n a0 m i3) (QB 0 (QT Try.prog D (n + 8) p25c24 (QF false pc25_r 0 F25_e))) := by
  intro m_l4
  induction m_l4 with
  | zero => intro i3; exact SimL.zero'  rfl
  | succ m_l4 ih_l4 =>
    intro i3
    refine SimL.succ ?_
    unfold F25_l4
    refine Sim.seq (.seq (.rg [(0, .one (vw Thing.cod a0)), (3, qj i3)] [] (.rd 4 [(7, qb (decide (i3 < ((a0).length : Int)))), (6, qj ((a0).length : Int)), (5, .one (vw Thing.cod a0)), (4, qj i3)] [] (.thenN (.cond (decide (i3 < ((a0).length : Int))) (by kernel_rfl) ?_ ?_)))))
    · refine Sim.skip (.thenN (.seq (.block (.st 2 [(11, qj i3), (10, .one (vw Thing.cod a0))] [] (.bind (og := ix a0 i3) ⟨some 12, POp.iaddrS 11 (Operand.tmp 10) (Operand.tmp 11), none, [(10, Hint.imm), (11, Hint.imm)]⟩ (fun x5 => [(12, .one (.eptr (Thing.cod.enc x5) 0))]) (fun x5 => []) (by kernel_rfl) (fun x5 hr => pOp_eff (by kernel_rfl) (by kernel_rfl) (eff_idx (c := Thing.cod) (l := a0) (k := .i64) (n := i3) (by kernel_rfl) (by kernel_rfl) (by kernel_rfl) hr)) (fun x5 => ?_))))))
      refine SimI.rn 1 [(13, .agg (Thing.cells x5))] [] (.bind (og := F52 n x5) ⟨some 14, POp.call false [[]] 52 [13], none, [(13, Hint.imm)]⟩ (fun r6 => [(14, qb r6)]) (fun r6 => []) (by kernel_rfl) (fun r6 hr => pOp_eff (by kernel_rfl) (by kernel_rfl) (eff_call (ARGS := [.agg (Thing.cells x5)]) (by kernel_rfl) (args_clean (by kernel_rfl) args_nil) (F52_ok n x5 r6 hr) (by kernel_rfl))) (fun r6 => ?_))
      refine SimI.rn 2 [(16, qb (!(r6))), (15, qb (!(r6)))] [] (.split 16 (!(r6)) (by kernel_rfl) ?_ ?_)
      · exact SimI.rd 17 [(33, qb true), (32, tz), (31, tz), (30, tz), (29, tz), (28, tz), (27, tz), (26, tz), (25, tz), (24, tz), (23, tz), (22, tz), (21, tz), (20, tz), (19, tz), (18, tz), (17, tz)] [] (.thenN (.condT (by kernel_rfl) (.sr 1 [(2, qb false)] [] (.ret (.blockR (.thenR (.loopR (.blockR (.thenR .fn)))))))))
      · refine SimI.rn 3 [(19, qb (decide ((0 : Int) < i3))), (18, qb (decide ((0 : Int) < i3))), (17, qj i3)] [] (.split 19 (decide ((0 : Int) < i3)) (by kernel_rfl) ?_ ?_)
        · refine SimI.rn 2 [(21, qj i3), (20, .one (vw Thing.cod a0))] [] (.bind (og := ix a0 i3) ⟨some 22, POp.iaddrS 11 (Operand.tmp 20) (Operand.tmp 21), some (19, true), [(20, Hint.imm), (21, Hint.imm)]⟩ (fun x7 => [(22, .one (.eptr (Thing.cod.enc x7) 0))]) (fun x7 => []) (by kernel_rfl) (fun x7 hr => pOp_eff (by kernel_rfl) (by kernel_rfl) (eff_idx (c := Thing.cod) (l := a0) (k := .i64) (n := i3) (by kernel_rfl) (by kernel_rfl) (by kernel_rfl) hr)) (fun x7 => ?_))
          refine SimI.rn 5 [(27, qj (iw .i64 (i3 - 1))), (26, qj i3), (25, .one (vw Thing.cod a0)), (24, qj x7.ID), (23, .one (.eptr (Thing.cod.enc x7) 0))] [] (.bind (og := ix a0 (iw .i64 (i3 - 1))) ⟨some 28, POp.iaddrS 11 (Operand.tmp 25) (Operand.tmp 27), some (19, true), [(25, Hint.imm), (27, Hint.imm)]⟩ (fun x8 => [(28, .one (.eptr (Thing.cod.enc x8) 0))]) (fun x8 => []) (by kernel_rfl) (fun x8 hr => pOp_eff (by kernel_rfl) (by kernel_rfl) (eff_idx (c := Thing.cod) (l := a0) (k := .i64) (n := IntKind.wrap .i64 (i3 - 1)) (by kernel_rfl) (by kernel_rfl) (by kernel_rfl) hr)) (fun x8 => ?_))
          refine SimI.rd 5 [(33, qb (decide (x7.ID ≤ x8.ID))), (32, qb (decide (x7.ID ≤ x8.ID))), (31, qb (decide (x7.ID ≤ x8.ID))), (30, qj x8.ID), (29, .one (.eptr (Thing.cod.enc x8) 0))] [] (.thenN (.cond (decide (x7.ID ≤ x8.ID)) (by kernel_rfl) ?_ ?_))
          · exact Sim.sr 1 [(2, qb false)] [] (.ret (.blockR (.thenR (.loopR (.blockR (.thenR .fn))))))
          · refine Sim.skip (.blockN (.thenN (.region0 (.rd 3 [(3, qj (iw .i64 (i3 + 1))), (9, qj (iw .i64 (i3 + 1))), (8, qj i3)] [] (.loopN (.pr [0, 3] [] [] [(0, .one (vw Thing.cod a0)), (3, qj (iw .i64 (i3 + 1)))] [] ?_))))))
            exact ih_l4 (iw .i64 (i3 + 1))
        · refine SimI.rd 14 [(33, qb false), (32, qb false), (31, tz), (30, tz), (29, tz), (28, tz), (27, tz), (26, tz), (25, tz), (24, tz), (23, tz), (22, tz), (21, tz), (20, tz)] [] (.thenN (.condF (by kernel_rfl) (.skip (.blockN (.thenN (.region0 (.rd 3 [(3, qj (iw .i64 (i3 + 1))), (9, qj (iw .i64 (i3 + 1))), (8, qj i3)] [] (.loopN (.pr [0, 3] [] [] [(0, .one (vw Thing.cod a0)), (3, qj (iw .i64 (i3 + 1)))] [] ?_)))))))))
          exact ih_l4 (iw .i64 (i3 + 1))
    · exact Sim.exit (.thenX (.loopX (.blockX (.thenN (.sr 4 [(2, qb (decide (((a0).length : Int) ≤ 200))), (36, qb (decide (((a0).length : Int) ≤ 200))), (35, qj ((a0).length : Int)), (34, .one (vw Thing.cod a0))] [] (.ret .fn))))))

def F25 (n : Nat) (a0 : (List Thing)) : Option Bool :=
  F25_l4 n a0 (n + 8) 0
theorem F25_ok (n : Nat) (a0 : (List Thing)) : ∀ r, F25 n a0 = some r → D 25 [.one (vw Thing.cod a0)] [] = some (F25_e r) := by
  refine fn_to (D := D) (n := n + 8) (nt := 37) (rs := pc25_r) (c := p25c26) (L := [(0, .one (vw Thing.cod a0))]) (M := []) (k := 0) rfl rfl rfl rfl rfl rfl rfl ?_
  unfold F25
  refine Sim.sr 1 [(2, qb false)] [] (.seq (.sr 1 [(3, qj 0)] [] (.block (.loop (.pr [0, 3] [] [] [(0, .one (vw Thing.cod a0)), (3, qj 0)] [] ?_)))))
  exact F25_l4_ok n a0 (n + 8) 0


-- 26: vedette/vedetteref3.IsCell
def F26_e : Bool → PV × List Ob := fun r => (.one (lb r), [])
def F26 (n : Nat) (a0 : Int) : Option Bool :=
  if decide ((0 : Int) ≤ a0) then
    some (decide (a0 < 16))
  else
    some false
theorem F26_ok (n : Nat) (a0 : Int) : ∀ r, F26 n a0 = some r → D 26 [.one (li .i64 a0)] [] = some (F26_e r) := by
  refine fn_to (D := D) (n := n + 8) (nt := 9) (rs := pc26_r) (c := p26c5) (L := [(0, qj a0)]) (M := []) (k := 0) rfl rfl rfl rfl rfl rfl rfl ?_
  unfold F26
  refine Sim.sr 1 [(2, qb false)] [] (.st 3 [(5, qb (decide ((0 : Int) ≤ a0))), (4, qb (decide ((0 : Int) ≤ a0))), (3, qj a0)] [] (.split 5 (decide ((0 : Int) ≤ a0)) (by kernel_rfl) ?_ ?_))
  · exact SimI.rd 4 [(2, qb (decide (a0 < 16))), (8, qb (decide (a0 < 16))), (7, qb (decide (a0 < 16))), (6, qj a0)] [] (.thenN (.ret .fn))
  · exact SimI.rd 4 [(2, qb false), (8, qb false), (7, tz), (6, tz)] [] (.thenN (.ret .fn))


-- 53: vedette/vedetteref10.within
def F53_e : Bool → PV × List Ob := fun r => (.one (lb r), [])
def F53 (n : Nat) (a0 : Int) (a1 : Int) (a2 : Int) : Option Bool :=
  if decide (a1 ≤ a0) then
    some (decide (a0 ≤ a2))
  else
    some false
theorem F53_ok (n : Nat) (a0 : Int) (a1 : Int) (a2 : Int) : ∀ r, F53 n a0 a1 a2 = some r → D 53 [.one (li .i64 a0), .one (li .i64 a1), .one (li .i64 a2)] [] = some (F53_e r) := by
  refine fn_to (D := D) (n := n + 8) (nt := 15) (rs := pc53_r) (c := p53c5) (L := [(0, qj a0), (1, qj a1), (2, qj a2)]) (M := []) (k := 0) rfl rfl rfl rfl rfl rfl rfl ?_
  unfold F53
  refine Sim.sr 1 [(6, qb false)] [] (.st 4 [(10, qb (decide (a1 ≤ a0))), (9, qb (decide (a1 ≤ a0))), (8, qj a1), (7, qj a0)] [] (.split 10 (decide (a1 ≤ a0)) (by kernel_rfl) ?_ ?_))
  · exact SimI.rd 5 [(6, qb (decide (a0 ≤ a2))), (14, qb (decide (a0 ≤ a2))), (13, qb (decide (a0 ≤ a2))), (12, qj a2), (11, qj a0)] [] (.thenN (.ret .fn))
  · exact SimI.rd 5 [(6, qb false), (14, qb false), (13, tz), (12, tz), (11, tz)] [] (.thenN (.ret .fn))


-- 54: vedette/vedetteref10.shape
def F54_e : Command → PV × List Ob := fun r => (.agg (Command.cells r), [])
def F54 (n : Nat) (a0 : Command) : Option Command :=
  if a0.Kind == 1 then
    some (Command.mk a0.Kind 0 0 0 a0.At a0.F (Field.mk 0 ByteArray.empty) a0.Client a0.Session (Rect.mk 0 0 0 0))
  else
    if a0.Kind == 2 then
      some (Command.mk a0.Kind a0.ID 0 0 a0.At (A4.mk (Field.mk 0 ByteArray.empty) (Field.mk 0 ByteArray.empty) (Field.mk 0 ByteArray.empty) (Field.mk 0 ByteArray.empty)) (Field.mk 0 ByteArray.empty) a0.Client a0.Session (Rect.mk 0 0 0 0))
    else
      if a0.Kind == 3 then
        some (Command.mk a0.Kind a0.ID a0.Which 0 (Point.mk 0 0) (A4.mk (Field.mk 0 ByteArray.empty) (Field.mk 0 ByteArray.empty) (Field.mk 0 ByteArray.empty) (Field.mk 0 ByteArray.empty)) a0.Value a0.Client a0.Session (Rect.mk 0 0 0 0))
      else
        if a0.Kind == 4 then
          some (Command.mk a0.Kind a0.ID 0 0 (Point.mk 0 0) (A4.mk (Field.mk 0 ByteArray.empty) (Field.mk 0 ByteArray.empty) (Field.mk 0 ByteArray.empty) (Field.mk 0 ByteArray.empty)) (Field.mk 0 ByteArray.empty) a0.Client a0.Session (Rect.mk 0 0 0 0))
        else
          if a0.Kind == 5 then
            some (Command.mk a0.Kind 0 a0.Which a0.To (Point.mk 0 0) (A4.mk (Field.mk 0 ByteArray.empty) (Field.mk 0 ByteArray.empty) (Field.mk 0 ByteArray.empty) (Field.mk 0 ByteArray.empty)) (Field.mk 0 ByteArray.empty) a0.Client a0.Session (Rect.mk 0 0 0 0))
          else
            if a0.Kind == 6 then
              if a0.Kind == 6 then
                some (Command.mk a0.Kind 0 0 0 (Point.mk 0 0) (A4.mk (Field.mk 0 ByteArray.empty) (Field.mk 0 ByteArray.empty) (Field.mk 0 ByteArray.empty) (Field.mk 0 ByteArray.empty)) (Field.mk 0 ByteArray.empty) a0.Client a0.Session a0.Rect)
              else
                some (Command.mk a0.Kind 0 0 0 (Point.mk 0 0) (A4.mk (Field.mk 0 ByteArray.empty) (Field.mk 0 ByteArray.empty) (Field.mk 0 ByteArray.empty) (Field.mk 0 ByteArray.empty)) (Field.mk 0 ByteArray.empty) a0.Client a0.Session (Rect.mk 0 0 0 0))
            else
              if a0.Kind == 7 then
                some (Command.mk a0.Kind 0 0 0 (Point.mk 0 0) (A4.mk (Field.mk 0 ByteArray.empty) (Field.mk 0 ByteArray.empty) (Field.mk 0 ByteArray.empty) (Field.mk 0 ByteArray.empty)) (Field.mk 0 ByteArray.empty) a0.Client a0.Session a0.Rect)
              else
                some (Command.mk a0.Kind 0 0 0 (Point.mk 0 0) (A4.mk (Field.mk 0 ByteArray.empty) (Field.mk 0 ByteArray.empty) (Field.mk 0 ByteArray.empty) (Field.mk 0 ByteArray.empty)) (Field.mk 0 ByteArray.empty) a0.Client a0.Session (Rect.mk 0 0 0 0))
theorem F54_ok (n : Nat) (a0 : Command) : ∀ r, F54 n a0 = some r → D 54 [.agg (Command.cells a0)] [] = some (F54_e r) := by
  refine fn_to (D := D) (n := n + 8) (nt := 60) (rs := pc54_r) (c := p54c40) (L := [(0, .agg (Command.cells a0))]) (M := []) (k := 0) rfl rfl rfl rfl rfl rfl rfl ?_
  unfold F54
  refine Sim.sr 2 [(2, qp 2 0), (1, qp 1 0)] [(2, some (.cells [lj 0, lj 0, lj 0, lj 0, lj 0, lj 0, lj 0, ls be, lj 0, ls be, lj 0, ls be, lj 0, ls be, lj 0, ls be, lj 0, lj 0, lj 0, lj 0, lj 0, lj 0])), (1, some (.cells (Command.cells a0)))] (.sr 9 [(3, qp 3 0), (10, .agg (w1 a0)), (9, qj a0.Session), (8, qp 1 17), (7, qj a0.Client), (6, qp 1 16), (5, qj a0.Kind), (4, qp 1 0)] [(3, some (.cells (w1 a0))), (3, some (.cells [lj 0, lj 0, lj 0, lj 0, lj 0, lj 0, lj 0, ls be, lj 0, ls be, lj 0, ls be, lj 0, ls be, lj 0, ls be, lj 0, lj 0, lj 0, lj 0, lj 0, lj 0]))] (.seq (.sr 2 [(12, qj a0.Kind), (11, qp 1 0)] [] (.block (.sr 2 [(13, qb (a0.Kind == 1)), (14, qb (a0.Kind == 1))] [] (.cond (a0.Kind == 1) (by kernel_rfl) ?_ ?_))))))
  · exact Sim.region0 (.rd 8 [(20, qp 3 6), (19, qp 3 4), (18, .agg (A4_Field.cells a0.F)), (17, qp 1 6), (16, .agg [lj a0.At.X, lj a0.At.Y]), (15, qp 1 4)] [(3, some (.cells [lj a0.Kind, lj 0, lj 0, lj 0, lj a0.At.X, lj a0.At.Y, lj a0.F.a0.N, ls a0.F.a0.Text, lj a0.F.a1.N, ls a0.F.a1.Text, lj a0.F.a2.N, ls a0.F.a2.Text, lj a0.F.a3.N, ls a0.F.a3.Text, lj 0, ls be, lj a0.Client, lj a0.Session, lj 0, lj 0, lj 0, lj 0])), (3, some (.cells (w10 a0)))] (.blockN (.thenN (.sr 2 [(59, .agg [lj a0.Kind, lj 0, lj 0, lj 0, lj a0.At.X, lj a0.At.Y, lj a0.F.a0.N, ls a0.F.a0.Text, lj a0.F.a1.N, ls a0.F.a1.Text, lj a0.F.a2.N, ls a0.F.a2.Text, lj a0.F.a3.N, ls a0.F.a3.Text, lj 0, ls be, lj a0.Client, lj a0.Session, lj 0, lj 0, lj 0, lj 0])] [(2, some (.cells [lj a0.Kind, lj 0, lj 0, lj 0, lj a0.At.X, lj a0.At.Y, lj a0.F.a0.N, ls a0.F.a0.Text, lj a0.F.a1.N, ls a0.F.a1.Text, lj a0.F.a2.N, ls a0.F.a2.Text, lj a0.F.a3.N, ls a0.F.a3.Text, lj 0, ls be, lj a0.Client, lj a0.Session, lj 0, lj 0, lj 0, lj 0]))] (.ret .fn)))))
  · refine Sim.sr 2 [(21, qb (a0.Kind == 2)), (22, qb (a0.Kind == 2))] [] (.cond (a0.Kind == 2) (by kernel_rfl) ?_ ?_)
    · exact Sim.region0 (.rd 8 [(28, qp 3 4), (27, qp 3 1), (26, .agg [lj a0.At.X, lj a0.At.Y]), (25, qp 1 4), (24, qj a0.ID), (23, qp 1 1)] [(3, some (.cells (w4 a0))), (3, some (.cells (w3 a0)))] (.blockN (.thenN (.sr 2 [(59, .agg (w4 a0))] [(2, some (.cells (w4 a0)))] (.ret .fn)))))
    · refine Sim.sr 2 [(29, qb (a0.Kind == 3)), (30, qb (a0.Kind == 3))] [] (.cond (a0.Kind == 3) (by kernel_rfl) ?_ ?_)
      · exact Sim.region0 (.rd 12 [(39, qp 3 14), (38, qp 3 2), (37, qp 3 1), (36, .agg [lj a0.Value.N, ls a0.Value.Text]), (35, qp 1 14), (34, qj a0.Which), (33, qp 1 2), (32, qj a0.ID), (31, qp 1 1)] [(3, some (.cells (w5 a0))), (3, some (.cells (w11 a0))), (3, some (.cells (w3 a0)))] (.blockN (.thenN (.sr 2 [(59, .agg (w5 a0))] [(2, some (.cells (w5 a0)))] (.ret .fn)))))
      · refine Sim.sr 2 [(40, qb (a0.Kind == 4)), (41, qb (a0.Kind == 4))] [] (.cond (a0.Kind == 4) (by kernel_rfl) ?_ ?_)
        · exact Sim.region0 (.rd 4 [(44, qp 3 1), (43, qj a0.ID), (42, qp 1 1)] [(3, some (.cells (w3 a0)))] (.blockN (.thenN (.sr 2 [(59, .agg (w3 a0))] [(2, some (.cells (w3 a0)))] (.ret .fn)))))
        · refine Sim.sr 2 [(45, qb (a0.Kind == 5)), (46, qb (a0.Kind == 5))] [] (.cond (a0.Kind == 5) (by kernel_rfl) ?_ ?_)
          · exact Sim.region0 (.rd 8 (w12 a0) [(3, some (.cells (w6 a0))), (3, some (.cells (w13 a0)))] (.blockN (.thenN (.sr 2 [(59, .agg (w6 a0))] [(2, some (.cells (w6 a0)))] (.ret .fn)))))
          · refine Sim.seq (.sr 2 [(53, qb (a0.Kind == 6)), (54, qb (a0.Kind == 6))] [] (.cond (a0.Kind == 6) (by kernel_rfl) ?_ ?_))
            · refine Sim.skip (.thenN (.cond (a0.Kind == 6) (by kernel_rfl) ?_ ?_))
              · exact Sim.region0 (.rd 4 (w7 a0) [(3, some (.cells (w2 a0)))] (.blockN (.thenN (.sr 2 [(59, .agg (w2 a0))] [(2, some (.cells (w2 a0)))] (.ret .fn)))))
              · exact Sim.skip (.blockN (.thenN (.sr 2 [(59, .agg (w1 a0))] [(2, some (.cells (w1 a0)))] (.ret .fn))))
            · refine Sim.region0 (.rd 2 [(53, qb (a0.Kind == 7)), (55, qb (a0.Kind == 7))] [] (.thenN (.cond (a0.Kind == 7) (by kernel_rfl) ?_ ?_)))
              · exact Sim.region0 (.rd 4 (w7 a0) [(3, some (.cells (w2 a0)))] (.blockN (.thenN (.sr 2 [(59, .agg (w2 a0))] [(2, some (.cells (w2 a0)))] (.ret .fn)))))
              · exact Sim.skip (.blockN (.thenN (.sr 2 [(59, .agg (w1 a0))] [(2, some (.cells (w1 a0)))] (.ret .fn))))


-- 55: vedette/vedetteref10.point
def F55_e : Bool → PV × List Ob := fun r => (.one (lb r), [])
def F55 (n : Nat) (a0 : Point) : Option Bool :=
  (F53 n a0.X (-1000) 1000).bind fun (r1 : Bool) =>
  if r1 then
    (F53 n a0.Y (-1000) 1000).bind fun (r2 : Bool) =>
    some r2
  else
    some false
theorem F55_ok (n : Nat) (a0 : Point) : ∀ r, F55 n a0 = some r → D 55 [.agg [li .i64 a0.X, li .i64 a0.Y]] [] = some (F55_e r) := by
  refine fn_to (D := D) (n := n + 8) (nt := 11) (rs := pc55_r) (c := p55c5) (L := [(0, .agg [lj a0.X, lj a0.Y])]) (M := []) (k := 0) rfl rfl rfl rfl rfl rfl rfl ?_
  unfold F55
  refine Sim.sr 2 [(2, qb false), (1, qp 1 0)] [(1, some (.cells [lj a0.X, lj a0.Y]))] (.st 2 [(4, qj a0.X), (3, qp 1 0)] [] (.cl 5 true [[], [], []] 53 [4, Operand.const (Value.int IntKind.i64 (-1000)), Operand.const (Value.int IntKind.i64 1000)] none (fun r1 => qb r1) [qj a0.X, qj (-1000), qj 1000] (F53_ok n a0.X (-1000) 1000) (fun r1 => ?_)))
  refine SimI.rn 1 [(6, qb r1)] [] (.split 6 r1 (by kernel_rfl) ?_ ?_)
  · refine SimI.rn 2 [(8, qj a0.Y), (7, qp 1 1)] [] (.cl 9 true [[], [], []] 53 [8, Operand.const (Value.int IntKind.i64 (-1000)), Operand.const (Value.int IntKind.i64 1000)] (some (6, true)) (fun r2 => qb r2) [qj a0.Y, qj (-1000), qj 1000] (F53_ok n a0.Y (-1000) 1000) (fun r2 => ?_))
    exact SimI.rd 2 [(2, qb r2), (10, qb r2)] [] (.thenN (.ret .fn))
  · exact SimI.rd 5 [(2, qb false), (10, qb false), (9, tz), (8, tz), (7, tz)] [] (.thenN (.ret .fn))


-- 56: vedette/vedetteref10.rect
def F56_e : Bool → PV × List Ob := fun r => (.one (lb r), [])
def F56 (n : Nat) (a0 : Rect) : Option Bool :=
  (F55 n (Point.mk a0.X0 a0.Y0)).bind fun (r1 : Bool) =>
  if r1 then
    (F55 n (Point.mk a0.X1 a0.Y1)).bind fun (r2 : Bool) =>
    some r2
  else
    some false
theorem F56_ok (n : Nat) (a0 : Rect) : ∀ r, F56 n a0 = some r → D 56 [.agg (Rect.cells a0)] [] = some (F56_e r) := by
  refine fn_to (D := D) (n := n + 8) (nt := 17) (rs := pc56_r) (c := p56c5) (L := [(0, .agg (Rect.cells a0))]) (M := []) (k := 0) rfl rfl rfl rfl rfl rfl rfl ?_
  unfold F56
  refine Sim.sr 2 [(2, qb false), (1, qp 1 0)] [(1, some (.cells (Rect.cells a0)))] (.st 5 [(7, .agg [lj a0.X0, lj a0.Y0]), (6, qj a0.Y0), (5, qp 1 1), (4, qj a0.X0), (3, qp 1 0)] [] (.cl 8 true [[]] 55 [7] none (fun r1 => qb r1) [.agg [lj a0.X0, lj a0.Y0]] (F55_ok n (Point.mk a0.X0 a0.Y0)) (fun r1 => ?_)))
  refine SimI.rn 1 [(9, qb r1)] [] (.split 9 r1 (by kernel_rfl) ?_ ?_)
  · refine SimI.rn 5 [(14, .agg [lj a0.X1, lj a0.Y1]), (13, qj a0.Y1), (12, qp 1 3), (11, qj a0.X1), (10, qp 1 2)] [] (.cl 15 true [[]] 55 [14] (some (9, true)) (fun r2 => qb r2) [.agg [lj a0.X1, lj a0.Y1]] (F55_ok n (Point.mk a0.X1 a0.Y1)) (fun r2 => ?_))
    exact SimI.rd 2 [(2, qb r2), (16, qb r2)] [] (.thenN (.ret .fn))
  · exact SimI.rd 8 [(2, qb false), (16, qb false), (15, tz), (14, tz), (13, tz), (12, tz), (11, tz), (10, tz)] [] (.thenN (.ret .fn))


-- 27: vedette/vedetteref10.Is
def F27_e : Bool → PV × List Ob := fun r => (.one (lb r), [])
def F27_u24 (n : Nat) (b23 : Bool) : Option Bool :=
    some b23
theorem F27_u24_ok (n : Nat) (a0 : Command) (b23 : Bool) : SimL Try.prog D (n + 8) (n + 4) p27c13 [(1, qp 1 0), (3, qb b23), (4, qj 4)] [(1, some (.cells (Command.cells a0)))] (F27_u24 n b23) (QB 0 (QT Try.prog D (n + 8) p27c19 (QF false pc27_r 0 F27_e))) := by
    unfold F27_u24
    exact SimL.succ (.seq (.seq (.rg [(1, qp 1 0), (3, qb b23), (4, qj 4)] [(1, some (.cells (Command.cells a0)))] (.rd 2 [(55, qb false), (54, qj 4)] [] (.thenN (.condF (by kernel_rfl) (.exit (.thenX (.loopX (.blockX (.thenN (.sr 2 [(2, qb b23), (66, qb b23)] [] (.ret .fn)))))))))))))

def F27_u21 (n : Nat) (a0 : Command) (b20 : Bool) : Option Bool :=
    if b20 then
      (F57 n a0.F.a3).bind fun (r22 : Bool) =>
      F27_u24 n r22
    else
      F27_u24 n false
theorem F27_u21_ok (n : Nat) (a0 : Command) (b20 : Bool) : SimL Try.prog D (n + 8) (n + 5) p27c13 [(1, qp 1 0), (3, qb b20), (4, qj 3)] [(1, some (.cells (Command.cells a0)))] (F27_u21 n a0 b20) (QB 0 (QT Try.prog D (n + 8) p27c19 (QF false pc27_r 0 F27_e))) := by
    unfold F27_u21
    refine SimL.succ (.seq (.seq (.rg [(1, qp 1 0), (3, qb b20), (4, qj 3)] [(1, some (.cells (Command.cells a0)))] (.rd 2 [(55, qb true), (54, qj 3)] [] (.thenN (.condT (by kernel_rfl) (.skip (.thenN (.seq (.block (.region0 (.rn 2 [(59, qb b20), (58, qb b20)] [] (.split 59 b20 (by kernel_rfl) ?_ ?_)))))))))))))
    · refine SimI.rn 4 [(63, .agg [lj a0.F.a3.N, ls a0.F.a3.Text]), (62, qp 1 12), (61, qp 1 6), (60, qj 3)] [] (.cl 64 true [[]] 57 [63] (some (59, true)) (fun r22 => qb r22) [.agg [lj a0.F.a3.N, ls a0.F.a3.Text]] (F57_ok n a0.F.a3) (fun r22 => ?_))
      refine SimI.rd 2 [(3, qb r22), (65, qb r22)] [] (.blockN (.thenN (.region0 (.rd 3 [(4, qj 4), (57, qj 4), (56, qj 3)] [] (.loopN (.pr [1, 3, 4] [1] [] [(1, qp 1 0), (3, qb r22), (4, qj 4)] [(1, some (.cells (Command.cells a0)))] ?_))))))
      exact F27_u24_ok n a0 r22
    · refine SimI.rd 7 [(3, qb false), (65, qb false), (64, tz), (63, tz), (62, tz), (61, tz), (60, tz)] [] (.blockN (.thenN (.region0 (.rd 3 [(4, qj 4), (57, qj 4), (56, qj 3)] [] (.loopN (.pr [1, 3, 4] [1] [] [(1, qp 1 0), (3, qb false), (4, qj 4)] [(1, some (.cells (Command.cells a0)))] ?_))))))
      exact F27_u24_ok n a0 false

def F27_u18 (n : Nat) (a0 : Command) (b17 : Bool) : Option Bool :=
    if b17 then
      (F57 n a0.F.a2).bind fun (r19 : Bool) =>
      F27_u21 n a0 r19
    else
      F27_u21 n a0 false
theorem F27_u18_ok (n : Nat) (a0 : Command) (b17 : Bool) : SimL Try.prog D (n + 8) (n + 6) p27c13 [(1, qp 1 0), (3, qb b17), (4, qj 2)] [(1, some (.cells (Command.cells a0)))] (F27_u18 n a0 b17) (QB 0 (QT Try.prog D (n + 8) p27c19 (QF false pc27_r 0 F27_e))) := by
    unfold F27_u18
    refine SimL.succ (.seq (.seq (.rg [(1, qp 1 0), (3, qb b17), (4, qj 2)] [(1, some (.cells (Command.cells a0)))] (.rd 2 [(55, qb true), (54, qj 2)] [] (.thenN (.condT (by kernel_rfl) (.skip (.thenN (.seq (.block (.region0 (.rn 2 [(59, qb b17), (58, qb b17)] [] (.split 59 b17 (by kernel_rfl) ?_ ?_)))))))))))))
    · refine SimI.rn 4 [(63, .agg [lj a0.F.a2.N, ls a0.F.a2.Text]), (62, qp 1 10), (61, qp 1 6), (60, qj 2)] [] (.cl 64 true [[]] 57 [63] (some (59, true)) (fun r19 => qb r19) [.agg [lj a0.F.a2.N, ls a0.F.a2.Text]] (F57_ok n a0.F.a2) (fun r19 => ?_))
      refine SimI.rd 2 [(3, qb r19), (65, qb r19)] [] (.blockN (.thenN (.region0 (.rd 3 [(4, qj 3), (57, qj 3), (56, qj 2)] [] (.loopN (.pr [1, 3, 4] [1] [] [(1, qp 1 0), (3, qb r19), (4, qj 3)] [(1, some (.cells (Command.cells a0)))] ?_))))))
      exact F27_u21_ok n a0 r19
    · refine SimI.rd 7 [(3, qb false), (65, qb false), (64, tz), (63, tz), (62, tz), (61, tz), (60, tz)] [] (.blockN (.thenN (.region0 (.rd 3 [(4, qj 3), (57, qj 3), (56, qj 2)] [] (.loopN (.pr [1, 3, 4] [1] [] [(1, qp 1 0), (3, qb false), (4, qj 3)] [(1, some (.cells (Command.cells a0)))] ?_))))))
      exact F27_u21_ok n a0 false

def F27_u15 (n : Nat) (a0 : Command) (b14 : Bool) : Option Bool :=
    if b14 then
      (F57 n a0.F.a1).bind fun (r16 : Bool) =>
      F27_u18 n a0 r16
    else
      F27_u18 n a0 false
theorem F27_u15_ok (n : Nat) (a0 : Command) (b14 : Bool) : SimL Try.prog D (n + 8) (n + 7) p27c13 [(1, qp 1 0), (3, qb b14), (4, qj 1)] [(1, some (.cells (Command.cells a0)))] (F27_u15 n a0 b14) (QB 0 (QT Try.prog D (n + 8) p27c19 (QF false pc27_r 0 F27_e))) := by
    unfold F27_u15
    refine SimL.succ (.seq (.seq (.rg [(1, qp 1 0), (3, qb b14), (4, qj 1)] [(1, some (.cells (Command.cells a0)))] (.rd 2 [(55, qb true), (54, qj 1)] [] (.thenN (.condT (by kernel_rfl) (.skip (.thenN (.seq (.block (.region0 (.rn 2 [(59, qb b14), (58, qb b14)] [] (.split 59 b14 (by kernel_rfl) ?_ ?_)))))))))))))
    · refine SimI.rn 4 [(63, .agg [lj a0.F.a1.N, ls a0.F.a1.Text]), (62, qp 1 8), (61, qp 1 6), (60, qj 1)] [] (.cl 64 true [[]] 57 [63] (some (59, true)) (fun r16 => qb r16) [.agg [lj a0.F.a1.N, ls a0.F.a1.Text]] (F57_ok n a0.F.a1) (fun r16 => ?_))
      refine SimI.rd 2 [(3, qb r16), (65, qb r16)] [] (.blockN (.thenN (.region0 (.rd 3 [(4, qj 2), (57, qj 2), (56, qj 1)] [] (.loopN (.pr [1, 3, 4] [1] [] [(1, qp 1 0), (3, qb r16), (4, qj 2)] [(1, some (.cells (Command.cells a0)))] ?_))))))
      exact F27_u18_ok n a0 r16
    · refine SimI.rd 7 [(3, qb false), (65, qb false), (64, tz), (63, tz), (62, tz), (61, tz), (60, tz)] [] (.blockN (.thenN (.region0 (.rd 3 [(4, qj 2), (57, qj 2), (56, qj 1)] [] (.loopN (.pr [1, 3, 4] [1] [] [(1, qp 1 0), (3, qb false), (4, qj 2)] [(1, some (.cells (Command.cells a0)))] ?_))))))
      exact F27_u18_ok n a0 false

def F27_j12 (n : Nat) (a0 : Command) (b11 : Bool) : Option Bool :=
    if b11 then
      (F57 n a0.F.a0).bind fun (r13 : Bool) =>
      F27_u15 n a0 r13
    else
      F27_u15 n a0 false
theorem F27_j12_ok (n : Nat) (a0 : Command) (b11 : Bool) : Sim Try.prog D (n + 8) p27c20 [(1, qp 1 0), (3, qb b11)] [(1, some (.cells (Command.cells a0)))] (F27_j12 n a0 b11) (QF false pc27_r 0 F27_e) := by
    unfold F27_j12
    refine Sim.seq (.seq (.rg [(1, qp 1 0), (3, qb b11)] [(1, some (.cells (Command.cells a0)))] (.rd 1 [(4, qj 0)] [] (.thenN (.block (.loop (.succ (.seq (.seq (.rg [(1, qp 1 0), (3, qb b11), (4, qj 0)] [(1, some (.cells (Command.cells a0)))] (.rd 2 [(55, qb true), (54, qj 0)] [] (.thenN (.condT (by kernel_rfl) (.skip (.thenN (.seq (.block (.region0 (.rn 2 [(59, qb b11), (58, qb b11)] [] (.split 59 b11 (by kernel_rfl) ?_ ?_))))))))))))))))))))
    · refine SimI.rn 4 [(63, .agg [lj a0.F.a0.N, ls a0.F.a0.Text]), (62, qp 1 6), (61, qp 1 6), (60, qj 0)] [] (.cl 64 true [[]] 57 [63] (some (59, true)) (fun r13 => qb r13) [.agg [lj a0.F.a0.N, ls a0.F.a0.Text]] (F57_ok n a0.F.a0) (fun r13 => ?_))
      refine SimI.rd 2 [(3, qb r13), (65, qb r13)] [] (.blockN (.thenN (.region0 (.rd 3 [(4, qj 1), (57, qj 1), (56, qj 0)] [] (.loopN (.pr [1, 3, 4] [1] [] [(1, qp 1 0), (3, qb r13), (4, qj 1)] [(1, some (.cells (Command.cells a0)))] ?_))))))
      exact F27_u15_ok n a0 r13
    · refine SimI.rd 7 [(3, qb false), (65, qb false), (64, tz), (63, tz), (62, tz), (61, tz), (60, tz)] [] (.blockN (.thenN (.region0 (.rd 3 [(4, qj 1), (57, qj 1), (56, qj 0)] [] (.loopN (.pr [1, 3, 4] [1] [] [(1, qp 1 0), (3, qb false), (4, qj 1)] [(1, some (.cells (Command.cells a0)))] ?_))))))
      exact F27_u15_ok n a0 false

def F27 (n : Nat) (a0 : Command) : Option Bool :=
  (F53 n a0.Kind 1 8).bind fun (r1 : Bool) =>
  if r1 then
    (F53 n a0.Client 0 3).bind fun (r2 : Bool) =>
    if r2 then
      (F53 n a0.Session 0 1000000).bind fun (r3 : Bool) =>
      if r3 then
        (F54 n a0).bind fun (r4 : Command) =>
        if Command.eqb a0 r4 then
          (F55 n a0.At).bind fun (r5 : Bool) =>
          if r5 then
            (F56 n a0.Rect).bind fun (r6 : Bool) =>
            if r6 then
              (F53 n a0.ID 0 1000000).bind fun (r7 : Bool) =>
              if r7 then
                (F53 n a0.Which (-1) 100).bind fun (r8 : Bool) =>
                if r8 then
                  (F53 n a0.To (-1) 100).bind fun (r9 : Bool) =>
                  if r9 then
                    (F57 n a0.Value).bind fun (r10 : Bool) =>
                    F27_j12 n a0 r10
                  else
                    F27_j12 n a0 false
                else
                  F27_j12 n a0 false
              else
                F27_j12 n a0 false
            else
              F27_j12 n a0 false
          else
            F27_j12 n a0 false
        else
          F27_j12 n a0 false
      else
        F27_j12 n a0 false
    else
      F27_j12 n a0 false
  else
    F27_j12 n a0 false
theorem F27_ok (n : Nat) (a0 : Command) : ∀ r, F27 n a0 = some r → D 27 [.agg (Command.cells a0)] [] = some (F27_e r) := by
  refine fn_to (D := D) (n := n + 8) (nt := 67) (rs := pc27_r) (c := p27c22) (L := [(0, .agg (Command.cells a0))]) (M := []) (k := 0) rfl rfl rfl rfl rfl rfl rfl ?_
  unfold F27
  refine Sim.sr 2 [(2, qb false), (1, qp 1 0)] [(1, some (.cells (Command.cells a0)))] (.st 2 [(6, qj a0.Kind), (5, qp 1 0)] [] (.bind (og := F53 n a0.Kind 1 8) ⟨some 7, POp.call false [[], [], []] 53 [6, Operand.const (Value.int IntKind.i64 1), Operand.const (Value.int IntKind.i64 8)], none, [(6, Hint.imm)]⟩ (fun r1 => [(7, qb r1)]) (fun r1 => []) (by kernel_rfl) (fun r1 hr => pOp_eff (by kernel_rfl) (by kernel_rfl) (eff_call (ARGS := [qj a0.Kind, qj 1, qj 8]) (by kernel_rfl) (args_clean (by kernel_rfl) (args_clean (by kernel_rfl) (args_clean (by kernel_rfl) args_nil))) (F53_ok n a0.Kind 1 8 r1 hr) (by kernel_rfl))) (fun r1 => ?_)))
  refine SimI.rn 1 [(8, qb r1)] [] (.split 8 r1 (by kernel_rfl) ?_ ?_)
  · refine SimI.rn 2 [(10, qj a0.Client), (9, qp 1 16)] [] (.bind (og := F53 n a0.Client 0 3) ⟨some 11, POp.call false [[], [], []] 53 [10, Operand.const (Value.int IntKind.i64 0), Operand.const (Value.int IntKind.i64 3)], some (8, true), [(10, Hint.imm)]⟩ (fun r2 => [(11, qb r2)]) (fun r2 => []) (by kernel_rfl) (fun r2 hr => pOp_eff (by kernel_rfl) (by kernel_rfl) (eff_call (ARGS := [qj a0.Client, qj 0, qj 3]) (by kernel_rfl) (args_clean (by kernel_rfl) (args_clean (by kernel_rfl) (args_clean (by kernel_rfl) args_nil))) (F53_ok n a0.Client 0 3 r2 hr) (by kernel_rfl))) (fun r2 => ?_))
    refine SimI.rn 2 [(13, qb r2), (12, qb r2)] [] (.split 13 r2 (by kernel_rfl) ?_ ?_)
    · refine SimI.rn 2 [(15, qj a0.Session), (14, qp 1 17)] [] (.bind (og := F53 n a0.Session 0 1000000) ⟨some 16, POp.call false [[], [], []] 53 [15, Operand.const (Value.int IntKind.i64 0), Operand.const (Value.int IntKind.i64 1000000)], some (13, true), [(15, Hint.imm)]⟩ (fun r3 => [(16, qb r3)]) (fun r3 => []) (by kernel_rfl) (fun r3 hr => pOp_eff (by kernel_rfl) (by kernel_rfl) (eff_call (ARGS := [qj a0.Session, qj 0, qj 1000000]) (by kernel_rfl) (args_clean (by kernel_rfl) (args_clean (by kernel_rfl) (args_clean (by kernel_rfl) args_nil))) (F53_ok n a0.Session 0 1000000 r3 hr) (by kernel_rfl))) (fun r3 => ?_))
      refine SimI.rn 2 [(18, qb r3), (17, qb r3)] [] (.split 18 r3 (by kernel_rfl) ?_ ?_)
      · refine SimI.rn 2 [(20, .agg (Command.cells a0)), (19, .agg (Command.cells a0))] [] (.bind (og := F54 n a0) ⟨some 21, POp.call false [[]] 54 [20], some (18, true), [(20, Hint.imm)]⟩ (fun r4 => [(21, .agg (Command.cells r4))]) (fun r4 => []) (by kernel_rfl) (fun r4 hr => pOp_eff (by kernel_rfl) (by kernel_rfl) (eff_call (ARGS := [.agg (Command.cells a0)]) (by kernel_rfl) (args_clean (by kernel_rfl) args_nil) (F54_ok n a0 r4 hr) (by kernel_rfl))) (fun r4 => ?_))
        refine SimI.step ⟨some 22, POp.prim (Prim.bin BinOp.eql 53 false false) [19, 21], some (18, true), [(19, Hint.imm), (21, Hint.imm)]⟩ [(22, qb (Command.eqb a0 r4))] [] (by kernel_rfl) (pOp_eff (by kernel_rfl) (by kernel_rfl) (eff_prim (by kernel_rfl) (Command_eql a0 r4 _ _))) (.rn 2 [(24, qb (Command.eqb a0 r4)), (23, qb (Command.eqb a0 r4))] [] (.split 24 (Command.eqb a0 r4) (by kernel_rfl) ?_ ?_))
        · refine SimI.rn 2 [(26, .agg [lj a0.At.X, lj a0.At.Y]), (25, qp 1 4)] [] (.bind (og := F55 n a0.At) ⟨some 27, POp.call false [[]] 55 [26], some (24, true), [(26, Hint.imm)]⟩ (fun r5 => [(27, qb r5)]) (fun r5 => []) (by kernel_rfl) (fun r5 hr => pOp_eff (by kernel_rfl) (by kernel_rfl) (eff_call (ARGS := [.agg [lj a0.At.X, lj a0.At.Y]]) (by kernel_rfl) (args_clean (by kernel_rfl) args_nil) (F55_ok n a0.At r5 hr) (by kernel_rfl))) (fun r5 => ?_))
          refine SimI.rn 2 [(29, qb r5), (28, qb r5)] [] (.split 29 r5 (by kernel_rfl) ?_ ?_)
          · refine SimI.rn 2 [(31, .agg (Rect.cells a0.Rect)), (30, qp 1 18)] [] (.bind (og := F56 n a0.Rect) ⟨some 32, POp.call false [[]] 56 [31], some (29, true), [(31, Hint.imm)]⟩ (fun r6 => [(32, qb r6)]) (fun r6 => []) (by kernel_rfl) (fun r6 hr => pOp_eff (by kernel_rfl) (by kernel_rfl) (eff_call (ARGS := [.agg (Rect.cells a0.Rect)]) (by kernel_rfl) (args_clean (by kernel_rfl) args_nil) (F56_ok n a0.Rect r6 hr) (by kernel_rfl))) (fun r6 => ?_))
            refine SimI.rn 2 [(34, qb r6), (33, qb r6)] [] (.split 34 r6 (by kernel_rfl) ?_ ?_)
            · refine SimI.rn 2 [(36, qj a0.ID), (35, qp 1 1)] [] (.bind (og := F53 n a0.ID 0 1000000) ⟨some 37, POp.call false [[], [], []] 53 [36, Operand.const (Value.int IntKind.i64 0), Operand.const (Value.int IntKind.i64 1000000)], some (34, true), [(36, Hint.imm)]⟩ (fun r7 => [(37, qb r7)]) (fun r7 => []) (by kernel_rfl) (fun r7 hr => pOp_eff (by kernel_rfl) (by kernel_rfl) (eff_call (ARGS := [qj a0.ID, qj 0, qj 1000000]) (by kernel_rfl) (args_clean (by kernel_rfl) (args_clean (by kernel_rfl) (args_clean (by kernel_rfl) args_nil))) (F53_ok n a0.ID 0 1000000 r7 hr) (by kernel_rfl))) (fun r7 => ?_))
              refine SimI.rn 2 [(39, qb r7), (38, qb r7)] [] (.split 39 r7 (by kernel_rfl) ?_ ?_)
              · refine SimI.rn 2 [(41, qj a0.Which), (40, qp 1 2)] [] (.bind (og := F53 n a0.Which (-1) 100) ⟨some 42, POp.call false [[], [], []] 53 [41, Operand.const (Value.int IntKind.i64 (-1)), Operand.const (Value.int IntKind.i64 100)], some (39, true), [(41, Hint.imm)]⟩ (fun r8 => [(42, qb r8)]) (fun r8 => []) (by kernel_rfl) (fun r8 hr => pOp_eff (by kernel_rfl) (by kernel_rfl) (eff_call (ARGS := [qj a0.Which, qj (-1), qj 100]) (by kernel_rfl) (args_clean (by kernel_rfl) (args_clean (by kernel_rfl) (args_clean (by kernel_rfl) args_nil))) (F53_ok n a0.Which (-1) 100 r8 hr) (by kernel_rfl))) (fun r8 => ?_))
                refine SimI.rn 2 [(44, qb r8), (43, qb r8)] [] (.split 44 r8 (by kernel_rfl) ?_ ?_)
                · refine SimI.rn 2 [(46, qj a0.To), (45, qp 1 3)] [] (.bind (og := F53 n a0.To (-1) 100) ⟨some 47, POp.call false [[], [], []] 53 [46, Operand.const (Value.int IntKind.i64 (-1)), Operand.const (Value.int IntKind.i64 100)], some (44, true), [(46, Hint.imm)]⟩ (fun r9 => [(47, qb r9)]) (fun r9 => []) (by kernel_rfl) (fun r9 hr => pOp_eff (by kernel_rfl) (by kernel_rfl) (eff_call (ARGS := [qj a0.To, qj (-1), qj 100]) (by kernel_rfl) (args_clean (by kernel_rfl) (args_clean (by kernel_rfl) (args_clean (by kernel_rfl) args_nil))) (F53_ok n a0.To (-1) 100 r9 hr) (by kernel_rfl))) (fun r9 => ?_))
                  refine SimI.rn 2 [(49, qb r9), (48, qb r9)] [] (.split 49 r9 (by kernel_rfl) ?_ ?_)
                  · refine SimI.rn 2 [(51, .agg [lj a0.Value.N, ls a0.Value.Text]), (50, qp 1 14)] [] (.bind (og := F57 n a0.Value) ⟨some 52, POp.call false [[]] 57 [51], some (49, true), [(51, Hint.imm)]⟩ (fun r10 => [(52, qb r10)]) (fun r10 => []) (by kernel_rfl) (fun r10 hr => pOp_eff (by kernel_rfl) (by kernel_rfl) (eff_call (ARGS := [.agg [lj a0.Value.N, ls a0.Value.Text]]) (by kernel_rfl) (args_clean (by kernel_rfl) args_nil) (F57_ok n a0.Value r10 hr) (by kernel_rfl))) (fun r10 => ?_))
                    refine SimI.rd 2 [(3, qb r10), (53, qb r10)] [] (.thenN (.pr [1, 3] [1] [] [(1, qp 1 0), (3, qb r10)] [(1, some (.cells (Command.cells a0)))] ?_))
                    exact F27_j12_ok n a0 r10
                  · refine SimI.rd 5 [(3, qb false), (53, qb false), (52, tz), (51, tz), (50, tz)] [] (.thenN (.pr [1, 3] [1] [] [(1, qp 1 0), (3, qb false)] [(1, some (.cells (Command.cells a0)))] ?_))
                    exact F27_j12_ok n a0 false
                · refine SimI.rd 10 [(3, qb false), (53, qb false), (52, tz), (51, tz), (50, tz), (49, qb false), (48, qb false), (47, tz), (46, tz), (45, tz)] [] (.thenN (.pr [1, 3] [1] [] [(1, qp 1 0), (3, qb false)] [(1, some (.cells (Command.cells a0)))] ?_))
                  exact F27_j12_ok n a0 false
              · refine SimI.rd 15 [(3, qb false), (53, qb false), (52, tz), (51, tz), (50, tz), (49, qb false), (48, qb false), (47, tz), (46, tz), (45, tz), (44, qb false), (43, qb false), (42, tz), (41, tz), (40, tz)] [] (.thenN (.pr [1, 3] [1] [] [(1, qp 1 0), (3, qb false)] [(1, some (.cells (Command.cells a0)))] ?_))
                exact F27_j12_ok n a0 false
            · refine SimI.rd 20 [(3, qb false), (53, qb false), (52, tz), (51, tz), (50, tz), (49, qb false), (48, qb false), (47, tz), (46, tz), (45, tz), (44, qb false), (43, qb false), (42, tz), (41, tz), (40, tz), (39, qb false), (38, qb false), (37, tz), (36, tz), (35, tz)] [] (.thenN (.pr [1, 3] [1] [] [(1, qp 1 0), (3, qb false)] [(1, some (.cells (Command.cells a0)))] ?_))
              exact F27_j12_ok n a0 false
          · refine SimI.rd 25 [(3, qb false), (53, qb false), (52, tz), (51, tz), (50, tz), (49, qb false), (48, qb false), (47, tz), (46, tz), (45, tz), (44, qb false), (43, qb false), (42, tz), (41, tz), (40, tz), (39, qb false), (38, qb false), (37, tz), (36, tz), (35, tz), (34, qb false), (33, qb false), (32, tz), (31, tz), (30, tz)] [] (.thenN (.pr [1, 3] [1] [] [(1, qp 1 0), (3, qb false)] [(1, some (.cells (Command.cells a0)))] ?_))
            exact F27_j12_ok n a0 false
        · refine SimI.rd 30 [(3, qb false), (53, qb false), (52, tz), (51, tz), (50, tz), (49, qb false), (48, qb false), (47, tz), (46, tz), (45, tz), (44, qb false), (43, qb false), (42, tz), (41, tz), (40, tz), (39, qb false), (38, qb false), (37, tz), (36, tz), (35, tz), (34, qb false), (33, qb false), (32, tz), (31, tz), (30, tz), (29, qb false), (28, qb false), (27, tz), (26, tz), (25, tz)] [] (.thenN (.pr [1, 3] [1] [] [(1, qp 1 0), (3, qb false)] [(1, some (.cells (Command.cells a0)))] ?_))
          exact F27_j12_ok n a0 false
      · refine SimI.rd 36 [(3, qb false), (53, qb false), (52, tz), (51, tz), (50, tz), (49, qb false), (48, qb false), (47, tz), (46, tz), (45, tz), (44, qb false), (43, qb false), (42, tz), (41, tz), (40, tz), (39, qb false), (38, qb false), (37, tz), (36, tz), (35, tz), (34, qb false), (33, qb false), (32, tz), (31, tz), (30, tz), (29, qb false), (28, qb false), (27, tz), (26, tz), (25, tz), (24, qb false), (23, qb false), (22, tz), (21, tz), (20, tz), (19, tz)] [] (.thenN (.pr [1, 3] [1] [] [(1, qp 1 0), (3, qb false)] [(1, some (.cells (Command.cells a0)))] ?_))
        exact F27_j12_ok n a0 false
    · refine SimI.rd 41 [(3, qb false), (53, qb false), (52, tz), (51, tz), (50, tz), (49, qb false), (48, qb false), (47, tz), (46, tz), (45, tz), (44, qb false), (43, qb false), (42, tz), (41, tz), (40, tz), (39, qb false), (38, qb false), (37, tz), (36, tz), (35, tz), (34, qb false), (33, qb false), (32, tz), (31, tz), (30, tz), (29, qb false), (28, qb false), (27, tz), (26, tz), (25, tz), (24, qb false), (23, qb false), (22, tz), (21, tz), (20, tz), (19, tz), (18, qb false), (17, qb false), (16, tz), (15, tz), (14, tz)] [] (.thenN (.pr [1, 3] [1] [] [(1, qp 1 0), (3, qb false)] [(1, some (.cells (Command.cells a0)))] ?_))
      exact F27_j12_ok n a0 false
  · refine SimI.rd 46 [(3, qb false), (53, qb false), (52, tz), (51, tz), (50, tz), (49, qb false), (48, qb false), (47, tz), (46, tz), (45, tz), (44, qb false), (43, qb false), (42, tz), (41, tz), (40, tz), (39, qb false), (38, qb false), (37, tz), (36, tz), (35, tz), (34, qb false), (33, qb false), (32, tz), (31, tz), (30, tz), (29, qb false), (28, qb false), (27, tz), (26, tz), (25, tz), (24, qb false), (23, qb false), (22, tz), (21, tz), (20, tz), (19, tz), (18, qb false), (17, qb false), (16, tz), (15, tz), (14, tz), (13, qb false), (12, qb false), (11, tz), (10, tz), (9, tz)] [] (.thenN (.pr [1, 3] [1] [] [(1, qp 1 0), (3, qb false)] [(1, some (.cells (Command.cells a0)))] ?_))
    exact F27_j12_ok n a0 false


-- 28: vedette/vedetteref10.Watches
def F28_e : Bool → PV × List Ob := fun r => (.one (lb r), [])
def F28 (n : Nat) (a0 : Command) : Option Bool :=
  (F53 n a0.Kind 6 8).bind fun (r1 : Bool) =>
  some r1
theorem F28_ok (n : Nat) (a0 : Command) : ∀ r, F28 n a0 = some r → D 28 [.agg (Command.cells a0)] [] = some (F28_e r) := by
  refine fn_to (D := D) (n := n + 8) (nt := 6) (rs := pc28_r) (c := p28c5) (L := [(0, .agg (Command.cells a0))]) (M := []) (k := 0) rfl rfl rfl rfl rfl rfl rfl ?_
  unfold F28
  refine Sim.sr 2 [(2, qb false), (1, qp 1 0)] [(1, some (.cells (Command.cells a0)))] (.st 2 [(4, qj a0.Kind), (3, qp 1 0)] [] (.cl 5 true [[], [], []] 53 [4, Operand.const (Value.int IntKind.i64 6), Operand.const (Value.int IntKind.i64 8)] none (fun r1 => qb r1) [qj a0.Kind, qj 6, qj 8] (F53_ok n a0.Kind 6 8) (fun r1 => ?_)))
  exact SimI.rd 1 [(2, qb r1)] [] (.thenN (.ret .fn))


-- 59: vedette/vedetteref3.Weave
def F59_e : Int → PV × List Ob := fun r => (.one (li .u32 r), [])
def F59_l7 (n : Nat) (a0 : Int) (a1 : Int) : Nat → Int → Int → Option Int
  | 0, _, _ => none
  | m + 1, i5, i6 =>
    if decide (i6 < 16) then
      if ¬ (IntKind.wrap .u64 i6 < 0) then
        if ¬ (IntKind.wrap .u64 (IntKind.wrap .i64 (2 * i6)) < 0) then
          if ¬ (IntKind.wrap .u64 i6 < 0) then
            if ¬ (IntKind.wrap .u64 (IntKind.wrap .i64 (IntKind.wrap .i64 (2 * i6) + 1)) < 0) then
              (F59_l7 n a0 a1 m) (bitsI .or .u32 (bitsI .or .u32 i5 (shlI .u32 (IntKind.wrap .u32 (bitsI .and .u16 (shrI .u16 a0 (IntKind.wrap .u64 i6)) 1)) (IntKind.wrap .u64 (IntKind.wrap .i64 (2 * i6))))) (shlI .u32 (IntKind.wrap .u32 (bitsI .and .u16 (shrI .u16 a1 (IntKind.wrap .u64 i6)) 1)) (IntKind.wrap .u64 (IntKind.wrap .i64 (IntKind.wrap .i64 (2 * i6) + 1))))) (IntKind.wrap .i64 (i6 + 1))
            else none
          else none
        else none
      else none
    else
      some i5
theorem F59_l7_ok (n : Nat) (a0 : Int) (a1 : Int) : ∀ (m : Nat) (i5 : Int) (i6 : Int), SimL Try.prog D (n + 8) m p59c13 [(0, .one (li .u16 a0)), (1, .one (li .u16 a1)), (5, .one (li .u32 i5)), (6, qj i6)] [] (F59_l7 n a0 a1 m i5 i6) (QB 0 (QT Try.prog D (n + 8) p59c19 (QF false pc59_r 0 F59_e))) := by
  intro m_l7
  induction m_l7 with
  | zero => intro i5 i6; exact SimL.zero'  rfl
  | succ m_l7 ih_l7 =>
    intro i5 i6
    refine SimL.succ ?_
    unfold F59_l7
    refine Sim.seq (.seq (.rg [(0, .one (li .u16 a0)), (1, .one (li .u16 a1)), (5, .one (li .u32 i5)), (6, qj i6)] [] (.rd 2 [(8, qb (decide (i6 < 16))), (7, qj i6)] [] (.thenN (.cond (decide (i6 < 16)) (by kernel_rfl) ?_ ?_)))))
    · refine Sim.skip (.thenN (.seq (.block (.region0 (.rn 4 [(14, .one (li .u64 (iw .u64 i6))), (13, qj i6), (12, .one (li .u16 a0)), (11, .one (li .u32 i5))] [] (.guard (c := ¬ (iw .u64 i6 < 0)) ⟨some 15, POp.prim (Prim.bin BinOp.shr 35 false false) [12, 14], none, []⟩ [(15, .one (li .u16 (shrI .u16 a0 (iw .u64 i6))))] [] (by kernel_rfl) (fun hc => pOp_eff (by kernel_rfl) (by kernel_rfl) (eff_prim (by kernel_rfl) (pr_shr _ _ _ .u16 .u64 a0 (iw .u64 i6) hc))) (.rn 5 [(20, .one (li .u64 (iw .u64 (iw .i64 (2 * i6))))), (19, qj (iw .i64 (2 * i6))), (18, qj i6), (17, .one (li .u32 (iw .u32 (bitsI .and .u16 (shrI .u16 a0 (iw .u64 i6)) 1)))), (16, .one (li .u16 (bitsI .and .u16 (shrI .u16 a0 (iw .u64 i6)) 1)))] [] (.guard (c := ¬ (iw .u64 (iw .i64 (2 * i6)) < 0)) ⟨some 21, POp.prim (Prim.bin BinOp.shl 101 false false) [17, 20], none, []⟩ [(21, .one (li .u32 (shlI .u32 (iw .u32 (bitsI .and .u16 (shrI .u16 a0 (iw .u64 i6)) 1)) (iw .u64 (iw .i64 (2 * i6))))))] [] (by kernel_rfl) (fun hc => pOp_eff (by kernel_rfl) (by kernel_rfl) (eff_prim (by kernel_rfl) (pr_shl _ _ _ .u32 .u64 (iw .u32 (bitsI .and .u16 (shrI .u16 a0 (iw .u64 i6)) 1)) (iw .u64 (iw .i64 (2 * i6))) hc))) (.rn 4 [(25, .one (li .u64 (iw .u64 i6))), (24, qj i6), (23, .one (li .u16 a1)), (22, .one (li .u32 (bitsI .or .u32 i5 (shlI .u32 (iw .u32 (bitsI .and .u16 (shrI .u16 a0 (iw .u64 i6)) 1)) (iw .u64 (iw .i64 (2 * i6)))))))] [] (.guard (c := ¬ (iw .u64 i6 < 0)) ⟨some 26, POp.prim (Prim.bin BinOp.shr 35 false false) [23, 25], none, []⟩ [(26, .one (li .u16 (shrI .u16 a1 (iw .u64 i6))))] [] (by kernel_rfl) (fun hc => pOp_eff (by kernel_rfl) (by kernel_rfl) (eff_prim (by kernel_rfl) (pr_shr _ _ _ .u16 .u64 a1 (iw .u64 i6) hc))) (.rn 6 [(32, .one (li .u64 (iw .u64 (iw .i64 (iw .i64 (2 * i6) + 1))))), (31, qj (iw .i64 (iw .i64 (2 * i6) + 1))), (30, qj (iw .i64 (2 * i6))), (29, qj i6), (28, .one (li .u32 (iw .u32 (bitsI .and .u16 (shrI .u16 a1 (iw .u64 i6)) 1)))), (27, .one (li .u16 (bitsI .and .u16 (shrI .u16 a1 (iw .u64 i6)) 1)))] [] (.guard (c := ¬ (iw .u64 (iw .i64 (iw .i64 (2 * i6) + 1)) < 0)) ⟨some 33, POp.prim (Prim.bin BinOp.shl 101 false false) [28, 32], none, []⟩ [(33, .one (li .u32 (shlI .u32 (iw .u32 (bitsI .and .u16 (shrI .u16 a1 (iw .u64 i6)) 1)) (iw .u64 (iw .i64 (iw .i64 (2 * i6) + 1))))))] [] (by kernel_rfl) (fun hc => pOp_eff (by kernel_rfl) (by kernel_rfl) (eff_prim (by kernel_rfl) (pr_shl _ _ _ .u32 .u64 (iw .u32 (bitsI .and .u16 (shrI .u16 a1 (iw .u64 i6)) 1)) (iw .u64 (iw .i64 (iw .i64 (2 * i6) + 1))) hc))) (.rd 2 [(5, .one (li .u32 (bitsI .or .u32 (bitsI .or .u32 i5 (shlI .u32 (iw .u32 (bitsI .and .u16 (shrI .u16 a0 (iw .u64 i6)) 1)) (iw .u64 (iw .i64 (2 * i6))))) (shlI .u32 (iw .u32 (bitsI .and .u16 (shrI .u16 a1 (iw .u64 i6)) 1)) (iw .u64 (iw .i64 (iw .i64 (2 * i6) + 1))))))), (34, .one (li .u32 (bitsI .or .u32 (bitsI .or .u32 i5 (shlI .u32 (iw .u32 (bitsI .and .u16 (shrI .u16 a0 (iw .u64 i6)) 1)) (iw .u64 (iw .i64 (2 * i6))))) (shlI .u32 (iw .u32 (bitsI .and .u16 (shrI .u16 a1 (iw .u64 i6)) 1)) (iw .u64 (iw .i64 (iw .i64 (2 * i6) + 1)))))))] [] (.blockN (.thenN (.region0 (.rd 3 [(6, qj (iw .i64 (i6 + 1))), (10, qj (iw .i64 (i6 + 1))), (9, qj i6)] [] (.loopN (.pr [0, 1, 5, 6] [] [] [(0, .one (li .u16 a0)), (1, .one (li .u16 a1)), (5, .one (li .u32 (bitsI .or .u32 (bitsI .or .u32 i5 (shlI .u32 (iw .u32 (bitsI .and .u16 (shrI .u16 a0 (iw .u64 i6)) 1)) (iw .u64 (iw .i64 (2 * i6))))) (shlI .u32 (iw .u32 (bitsI .and .u16 (shrI .u16 a1 (iw .u64 i6)) 1)) (iw .u64 (iw .i64 (iw .i64 (2 * i6) + 1))))))), (6, qj (iw .i64 (i6 + 1)))] [] ?_)))))))))))))))))))
      exact ih_l7 (bitsI .or .u32 (bitsI .or .u32 i5 (shlI .u32 (iw .u32 (bitsI .and .u16 (shrI .u16 a0 (iw .u64 i6)) 1)) (iw .u64 (iw .i64 (2 * i6))))) (shlI .u32 (iw .u32 (bitsI .and .u16 (shrI .u16 a1 (iw .u64 i6)) 1)) (iw .u64 (iw .i64 (iw .i64 (2 * i6) + 1))))) (iw .i64 (i6 + 1))
    · exact Sim.exit (.thenX (.loopX (.blockX (.thenN (.sr 2 [(4, .one (li .u32 i5)), (35, .one (li .u32 i5))] [] (.ret .fn))))))

def F59 (n : Nat) (a0 : Int) (a1 : Int) : Option Int :=
  F59_l7 n a0 a1 (n + 8) 0 0
theorem F59_ok (n : Nat) (a0 : Int) (a1 : Int) : ∀ r, F59 n a0 a1 = some r → D 59 [.one (li .u16 a0), .one (li .u16 a1)] [] = some (F59_e r) := by
  refine fn_to (D := D) (n := n + 8) (nt := 36) (rs := pc59_r) (c := p59c22) (L := [(0, .one (li .u16 a0)), (1, .one (li .u16 a1))]) (M := []) (k := 0) rfl rfl rfl rfl rfl rfl rfl ?_
  unfold F59
  refine Sim.sr 1 [(4, .one (li .u32 0))] [] (.sr 1 [(5, .one (li .u32 0))] [] (.seq (.sr 1 [(6, qj 0)] [] (.block (.loop (.pr [0, 1, 5, 6] [] [] [(0, .one (li .u16 a0)), (1, .one (li .u16 a1)), (5, .one (li .u32 0)), (6, qj 0)] [] ?_))))))
  exact F59_l7_ok n a0 a1 (n + 8) 0 0


-- 29: vedette/vedetteref3.Cell
def F29_e : (Int × Int) → PV × List Ob := fun r => (.tup [.one (li .i64 r.1), .one (li .i64 r.2)], [])
def F29 (n : Nat) (a0 : Point) : Option (Int × Int) :=
  (F58 n a0).bind fun (r1 : Bool) =>
  if !(r1) then
    some (0, 14)
  else
    (F59 n (IntKind.wrap .u16 (IntKind.wrap .i64 (Int.tdiv a0.X 16))) (IntKind.wrap .u16 (IntKind.wrap .i64 (Int.tdiv a0.Y 16)))).bind fun (r2 : Int) =>
    some (IntKind.wrap .i64 r2, 0)
theorem F29_ok (n : Nat) (a0 : Point) : ∀ r, F29 n a0 = some r → D 29 [.agg [li .i64 a0.X, li .i64 a0.Y]] [] = some (F29_e r) := by
  refine fn_to (D := D) (n := n + 8) (nt := 17) (rs := pc29_r) (c := p29c13) (L := [(0, .agg [lj a0.X, lj a0.Y])]) (M := []) (k := 0) rfl rfl rfl rfl rfl rfl rfl ?_
  unfold F29
  refine Sim.sr 3 [(3, qj 0), (2, qj 0), (1, qp 1 0)] [(1, some (.cells [lj a0.X, lj a0.Y]))] (.seq (.st 1 [(4, .agg [lj a0.X, lj a0.Y])] [] (.cl 5 true [[]] 58 [4] none (fun r1 => qb r1) [.agg [lj a0.X, lj a0.Y]] (F58_ok n a0) (fun r1 => ?_))))
  refine SimI.rd 1 [(6, qb (!(r1)))] [] (.thenN (.cond (!(r1)) (by kernel_rfl) ?_ ?_))
  · exact Sim.sr 2 [(3, qj 14), (2, qj 0)] [] (.ret (.thenR .fn))
  · refine Sim.skip (.thenN (.st 8 [(14, .one (li .u16 (iw .u16 (iw .i64 (Int.tdiv a0.Y 16))))), (13, qj (iw .i64 (Int.tdiv a0.Y 16))), (12, qj a0.Y), (11, qp 1 1), (10, .one (li .u16 (iw .u16 (iw .i64 (Int.tdiv a0.X 16))))), (9, qj (iw .i64 (Int.tdiv a0.X 16))), (8, qj a0.X), (7, qp 1 0)] [] (.cl 15 true [[], []] 59 [10, 14] none (fun r2 => .one (li .u32 r2)) [.one (li .u16 (iw .u16 (iw .i64 (Int.tdiv a0.X 16)))), .one (li .u16 (iw .u16 (iw .i64 (Int.tdiv a0.Y 16))))] (F59_ok n (iw .u16 (iw .i64 (Int.tdiv a0.X 16))) (iw .u16 (iw .i64 (Int.tdiv a0.Y 16)))) (fun r2 => ?_))))
    exact SimI.rd 3 [(3, qj 0), (2, qj (iw .i64 r2)), (16, qj (iw .i64 r2))] [] (.thenN (.ret .fn))


-- 30: vedette/vedetteref17.handed
def F30_e : Bool → PV × List Ob := fun r => (.one (lb r), [])
def F30_l4 (n : Nat) (a0 : (List Hand)) (a1 : Int) : Nat → Int → Option Bool
  | 0, _ => none
  | m + 1, i3 =>
    if decide (i3 < ((a0).length : Int)) then
      (ix a0 i3).bind fun (x5 : Hand) =>
      if x5.Cell == a1 then
        some true
      else
        (F30_l4 n a0 a1 m) (IntKind.wrap .i64 (i3 + 1))
    else
      some false
theorem F30_l4_ok (n : Nat) (a0 : (List Hand)) (a1 : Int) : ∀ (m : Nat) (i3 : Int), SimL Try.prog D (n + 8) m p30c18 [(0, .one (vw Hand.cod a0)), (1, qj a1), (5, qj i3)] [] (F30_l4 n a0 a1 m i3) (QB 0 (QT Try.prog D (n + 8) p30c24 (QF false pc30_r 0 F30_e))) := by
  intro m_l4
  induction m_l4 with
  | zero => intro i3; exact SimL.zero'  rfl
  | succ m_l4 ih_l4 =>
    intro i3
    refine SimL.succ ?_
    unfold F30_l4
    refine Sim.seq (.seq (.rg [(0, .one (vw Hand.cod a0)), (1, qj a1), (5, qj i3)] [] (.rd 4 [(9, qb (decide (i3 < ((a0).length : Int)))), (8, qj ((a0).length : Int)), (7, .one (vw Hand.cod a0)), (6, qj i3)] [] (.thenN (.cond (decide (i3 < ((a0).length : Int))) (by kernel_rfl) ?_ ?_)))))
    · refine Sim.skip (.thenN (.seq (.block (.st 2 [(13, qj i3), (12, .one (vw Hand.cod a0))] [] (.bind (og := ix a0 i3) ⟨some 14, POp.iaddrS 2 (Operand.tmp 12) (Operand.tmp 13), none, []⟩ (fun x5 => [(14, .one (.eptr (Hand.cod.enc x5) 0))]) (fun x5 => []) (by kernel_rfl) (fun x5 hr => pOp_eff (by kernel_rfl) (by kernel_rfl) (eff_idx (c := Hand.cod) (l := a0) (k := .i64) (n := i3) (by kernel_rfl) (by kernel_rfl) (by kernel_rfl) hr)) (fun x5 => ?_))))))
      refine SimI.rd 4 [(18, qb (x5.Cell == a1)), (17, qj a1), (16, qj x5.Cell), (15, .one (.eptr (Hand.cod.enc x5) 0))] [] (.thenN (.cond (x5.Cell == a1) (by kernel_rfl) ?_ ?_))
      · exact Sim.sr 1 [(4, qb true)] [] (.ret (.blockR (.thenR (.loopR (.blockR (.thenR .fn))))))
      · refine Sim.skip (.blockN (.thenN (.region0 (.rd 3 [(5, qj (iw .i64 (i3 + 1))), (11, qj (iw .i64 (i3 + 1))), (10, qj i3)] [] (.loopN (.pr [0, 1, 5] [] [] [(0, .one (vw Hand.cod a0)), (1, qj a1), (5, qj (iw .i64 (i3 + 1)))] [] ?_))))))
        exact ih_l4 (iw .i64 (i3 + 1))
    · exact Sim.exit (.thenX (.loopX (.blockX (.thenN (.sr 1 [(4, qb false)] [] (.ret .fn))))))

def F30 (n : Nat) (a0 : (List Hand)) (a1 : Int) : Option Bool :=
  F30_l4 n a0 a1 (n + 8) 0
theorem F30_ok (n : Nat) (a0 : (List Hand)) (a1 : Int) : ∀ r, F30 n a0 a1 = some r → D 30 [.one (vw Hand.cod a0), .one (li .i64 a1)] [] = some (F30_e r) := by
  refine fn_to (D := D) (n := n + 8) (nt := 19) (rs := pc30_r) (c := p30c26) (L := [(0, .one (vw Hand.cod a0)), (1, qj a1)]) (M := []) (k := 0) rfl rfl rfl rfl rfl rfl rfl ?_
  unfold F30
  refine Sim.sr 1 [(4, qb false)] [] (.seq (.sr 1 [(5, qj 0)] [] (.block (.loop (.pr [0, 1, 5] [] [] [(0, .one (vw Hand.cod a0)), (1, qj a1), (5, qj 0)] [] ?_)))))
  exact F30_l4_ok n a0 a1 (n + 8) 0


-- 10: vedette/vedetteref17.Is
def F10_e : Bool → PV × List Ob := fun r => (.one (lb r), [])
def F10_l28 (n : Nat) (a0 : Note) : Nat → Int → Option Bool
  | 0, _ => none
  | m + 1, i27 =>
    if decide (i27 < ((a0.Moved).length : Int)) then
      (ix a0.Moved i27).bind fun (x29 : Thing) =>
      (F29 n x29.At).bind fun (r30 : (Int × Int)) =>
      (F30 n a0.Hands r30.1).bind fun (r31 : Bool) =>
      if r31 then
        some false
      else
        (F10_l28 n a0 m) (IntKind.wrap .i64 (i27 + 1))
    else
      some true
theorem F10_l28_ok (n : Nat) (a0 : Note) : ∀ (m : Nat) (i27 : Int), SimL Try.prog D (n + 8) m p10c92 [(2, qp 2 0), (12, qj i27)] [(2, some (.cells [lj a0.From, lj a0.Beat, vw Thing.cod a0.Moved, vw Hand.cod a0.Hands, vw Thing.cod a0.Given, vw Command.cod a0.Watch]))] (F10_l28 n a0 m i27) (QB 6 (QT Try.prog D (n + 8) p10c98 (QF false pc10_r 0 F10_e))) := by
  intro m_l28
  induction m_l28 with
  | zero => intro i27; exact SimL.zero'  rfl
  | succ m_l28 ih_l28 =>
    intro i27
    refine SimL.succ ?_
    unfold F10_l28
    refine Sim.seq (.seq (.rg [(2, qp 2 0), (12, qj i27)] [(2, some (.cells (w0 a0)))] (.rd 5 [(159, qb (decide (i27 < ((a0.Moved).length : Int)))), (158, qj ((a0.Moved).length : Int)), (157, .one (vw Thing.cod a0.Moved)), (156, qp 2 2), (155, qj i27)] [] (.thenN (.cond (decide (i27 < ((a0.Moved).length : Int))) (by kernel_rfl) ?_ ?_)))))
    · refine Sim.skip (.thenN (.seq (.block (.st 3 [(165, qj i27), (164, .one (vw Thing.cod a0.Moved)), (163, qp 2 2)] [] (.bind (og := ix a0.Moved i27) ⟨some 166, POp.iaddrS 11 (Operand.tmp 164) (Operand.tmp 165), none, []⟩ (fun x29 => [(166, .one (.eptr (Thing.cod.enc x29) 0))]) (fun x29 => []) (by kernel_rfl) (fun x29 hr => pOp_eff (by kernel_rfl) (by kernel_rfl) (eff_idx (c := Thing.cod) (l := a0.Moved) (k := .i64) (n := i27) (by kernel_rfl) (by kernel_rfl) (by kernel_rfl) hr)) (fun x29 => ?_))))))
      refine SimI.rn 2 [(168, .agg [lj x29.At.X, lj x29.At.Y]), (167, .one (.eptr (Thing.cod.enc x29) 1))] [] (.cl 169 true [[]] 29 [168] none (fun r30 => .tup [qj r30.1, qj r30.2]) [.agg [lj x29.At.X, lj x29.At.Y]] (F29_ok n x29.At) (fun r30 => ?_))
      refine SimI.rd 5 [(14, qj r30.2), (13, qj r30.1), (171, qj r30.2), (170, qj r30.1), (162, .tup [qj r30.1, qj r30.2])] [] (.thenN (.st 3 [(174, qj r30.1), (173, .one (vw Hand.cod a0.Hands)), (172, qp 2 3)] [] (.cl 175 true [[(0, 2)], []] 30 [173, 174] none (fun r31 => qb r31) [.one (vw Hand.cod a0.Hands), qj r30.1] (F30_ok n a0.Hands r30.1) (fun r31 => ?_))))
      refine SimI.dn (.thenN (.cond r31 (by kernel_rfl) ?_ ?_))
      · exact Sim.sr 1 [(4, qb false)] [] (.ret (.blockR (.thenR (.loopR (.blockR (.thenR .fn))))))
      · refine Sim.skip (.blockN (.thenN (.region0 (.rd 3 [(12, qj (iw .i64 (i27 + 1))), (161, qj (iw .i64 (i27 + 1))), (160, qj i27)] [] (.loopN (.pr [2, 12] [2] [] [(2, qp 2 0), (12, qj (iw .i64 (i27 + 1)))] [(2, some (.cells (w0 a0)))] ?_))))))
        exact ih_l28 (iw .i64 (i27 + 1))
    · exact Sim.exit (.thenX (.loopX (.blockX (.thenN (.sr 1 [(4, qb true)] [] (.ret .fn))))))

def F10_l21 (n : Nat) (a0 : Note) : Nat → Int → Option Bool
  | 0, _ => none
  | m + 1, i20 =>
    if decide (i20 < ((a0.Given).length : Int)) then
      (ix a0.Given i20).bind fun (x22 : Thing) =>
      (F29 n x22.At).bind fun (r23 : (Int × Int)) =>
      (F30 n a0.Hands r23.1).bind fun (r24 : Bool) =>
      if !(r24) then
        some false
      else
        (F10_l21 n a0 m) (IntKind.wrap .i64 (i20 + 1))
    else
      F10_l28 n a0 (n + 8) 0
theorem F10_l21_ok (n : Nat) (a0 : Note) : ∀ (m : Nat) (i20 : Int), SimL Try.prog D (n + 8) m p10c70 [(2, qp 2 0), (9, qj i20)] [(2, some (.cells [lj a0.From, lj a0.Beat, vw Thing.cod a0.Moved, vw Hand.cod a0.Hands, vw Thing.cod a0.Given, vw Command.cod a0.Watch]))] (F10_l21 n a0 m i20) (QB 4 (QT Try.prog D (n + 8) p10c99 (QF false pc10_r 0 F10_e))) := by
  intro m_l21
  induction m_l21 with
  | zero => intro i20; exact SimL.zero'  rfl
  | succ m_l21 ih_l21 =>
    intro i20
    refine SimL.succ ?_
    unfold F10_l21
    refine Sim.seq (.seq (.rg [(2, qp 2 0), (9, qj i20)] [(2, some (.cells (w0 a0)))] (.rd 5 [(137, qb (decide (i20 < ((a0.Given).length : Int)))), (136, qj ((a0.Given).length : Int)), (135, .one (vw Thing.cod a0.Given)), (134, qp 2 4), (133, qj i20)] [] (.thenN (.cond (decide (i20 < ((a0.Given).length : Int))) (by kernel_rfl) ?_ ?_)))))
    · refine Sim.skip (.thenN (.seq (.block (.st 3 [(143, qj i20), (142, .one (vw Thing.cod a0.Given)), (141, qp 2 4)] [] (.bind (og := ix a0.Given i20) ⟨some 144, POp.iaddrS 11 (Operand.tmp 142) (Operand.tmp 143), none, []⟩ (fun x22 => [(144, .one (.eptr (Thing.cod.enc x22) 0))]) (fun x22 => []) (by kernel_rfl) (fun x22 hr => pOp_eff (by kernel_rfl) (by kernel_rfl) (eff_idx (c := Thing.cod) (l := a0.Given) (k := .i64) (n := i20) (by kernel_rfl) (by kernel_rfl) (by kernel_rfl) hr)) (fun x22 => ?_))))))
      refine SimI.rn 2 [(146, .agg [lj x22.At.X, lj x22.At.Y]), (145, .one (.eptr (Thing.cod.enc x22) 1))] [] (.cl 147 true [[]] 29 [146] none (fun r23 => .tup [qj r23.1, qj r23.2]) [.agg [lj x22.At.X, lj x22.At.Y]] (F29_ok n x22.At) (fun r23 => ?_))
      refine SimI.rd 5 [(11, qj r23.2), (10, qj r23.1), (149, qj r23.2), (148, qj r23.1), (140, .tup [qj r23.1, qj r23.2])] [] (.thenN (.st 3 [(152, qj r23.1), (151, .one (vw Hand.cod a0.Hands)), (150, qp 2 3)] [] (.cl 153 true [[(0, 2)], []] 30 [151, 152] none (fun r24 => qb r24) [.one (vw Hand.cod a0.Hands), qj r23.1] (F30_ok n a0.Hands r23.1) (fun r24 => ?_))))
      refine SimI.rd 1 [(154, qb (!(r24)))] [] (.thenN (.cond (!(r24)) (by kernel_rfl) ?_ ?_))
      · exact Sim.sr 1 [(4, qb false)] [] (.ret (.blockR (.thenR (.loopR (.blockR (.thenR .fn))))))
      · refine Sim.skip (.blockN (.thenN (.region0 (.rd 3 [(9, qj (iw .i64 (i20 + 1))), (139, qj (iw .i64 (i20 + 1))), (138, qj i20)] [] (.loopN (.pr [2, 9] [2] [] [(2, qp 2 0), (9, qj (iw .i64 (i20 + 1)))] [(2, some (.cells (w0 a0)))] ?_))))))
        exact ih_l21 (iw .i64 (i20 + 1))
    · refine Sim.exit (.thenX (.loopX (.blockX (.thenN (.seq (.sr 1 [(12, qj 0)] [] (.block (.loop (.pr [2, 12] [2] [] [(2, qp 2 0), (12, qj 0)] [(2, some (.cells (w0 a0)))] ?_)))))))))
      exact F10_l28_ok n a0 (n + 8) 0

def F10_l13 (n : Nat) (a0 : Note) : Nat → Int → Option Bool
  | 0, _ => none
  | m + 1, i12 =>
    if decide (i12 < ((a0.Watch).length : Int)) then
      (ix a0.Watch i12).bind fun (x14 : Command) =>
      (F27 n x14).bind fun (r15 : Bool) =>
      if !(r15) then
        some false
      else
        (ix a0.Watch i12).bind fun (x16 : Command) =>
        (F28 n x16).bind fun (r17 : Bool) =>
        if !(r17) then
          some false
        else
          (F10_l13 n a0 m) (IntKind.wrap .i64 (i12 + 1))
    else
      F10_l21 n a0 (n + 8) 0
theorem F10_l13_ok (n : Nat) (a0 : Note) : ∀ (m : Nat) (i12 : Int), SimL Try.prog D (n + 8) m p10c48 [(2, qp 2 0), (8, qj i12)] [(2, some (.cells [lj a0.From, lj a0.Beat, vw Thing.cod a0.Moved, vw Hand.cod a0.Hands, vw Thing.cod a0.Given, vw Command.cod a0.Watch]))] (F10_l13 n a0 m i12) (QB 2 (QT Try.prog D (n + 8) p10c100 (QF false pc10_r 0 F10_e))) := by
  intro m_l13
  induction m_l13 with
  | zero => intro i12; exact SimL.zero'  rfl
  | succ m_l13 ih_l13 =>
    intro i12
    refine SimL.succ ?_
    unfold F10_l13
    refine Sim.seq (.seq (.rg [(2, qp 2 0), (8, qj i12)] [(2, some (.cells (w0 a0)))] (.rd 5 [(114, qb (decide (i12 < ((a0.Watch).length : Int)))), (113, qj ((a0.Watch).length : Int)), (112, .one (vw Command.cod a0.Watch)), (111, qp 2 5), (110, qj i12)] [] (.thenN (.cond (decide (i12 < ((a0.Watch).length : Int))) (by kernel_rfl) ?_ ?_)))))
    · refine Sim.skip (.thenN (.seq (.block (.st 3 [(119, qj i12), (118, .one (vw Command.cod a0.Watch)), (117, qp 2 5)] [] (.bind (og := ix a0.Watch i12) ⟨some 120, POp.iaddrS 22 (Operand.tmp 118) (Operand.tmp 119), none, []⟩ (fun x14 => [(120, .one (.eptr (Command.cod.enc x14) 0))]) (fun x14 => []) (by kernel_rfl) (fun x14 hr => pOp_eff (by kernel_rfl) (by kernel_rfl) (eff_idx (c := Command.cod) (l := a0.Watch) (k := .i64) (n := i12) (by kernel_rfl) (by kernel_rfl) (by kernel_rfl) hr)) (fun x14 => ?_))))))
      refine SimI.rn 1 [(121, .agg (Command.cells x14))] [] (.cl 122 true [[]] 27 [121] none (fun r15 => qb r15) [.agg (Command.cells x14)] (F27_ok n x14) (fun r15 => ?_))
      refine SimI.rn 2 [(124, qb (!(r15))), (123, qb (!(r15)))] [] (.split 124 (!(r15)) (by kernel_rfl) ?_ ?_)
      · exact SimI.rd 8 [(132, qb true), (131, tz), (130, tz), (129, tz), (128, tz), (127, tz), (126, tz), (125, tz)] [] (.thenN (.condT (by kernel_rfl) (.sr 1 [(4, qb false)] [] (.ret (.blockR (.thenR (.loopR (.blockR (.thenR .fn)))))))))
      · refine SimI.rn 3 [(127, qj i12), (126, .one (vw Command.cod a0.Watch)), (125, qp 2 5)] [] (.bind (og := ix a0.Watch i12) ⟨some 128, POp.iaddrS 22 (Operand.tmp 126) (Operand.tmp 127), some (124, false), []⟩ (fun x16 => [(128, .one (.eptr (Command.cod.enc x16) 0))]) (fun x16 => []) (by kernel_rfl) (fun x16 hr => pOp_eff (by kernel_rfl) (by kernel_rfl) (eff_idx (c := Command.cod) (l := a0.Watch) (k := .i64) (n := i12) (by kernel_rfl) (by kernel_rfl) (by kernel_rfl) hr)) (fun x16 => ?_))
        refine SimI.rn 1 [(129, .agg (Command.cells x16))] [] (.cl 130 true [[]] 28 [129] (some (124, false)) (fun r17 => qb r17) [.agg (Command.cells x16)] (F28_ok n x16) (fun r17 => ?_))
        refine SimI.rd 2 [(132, qb (!(r17))), (131, qb (!(r17)))] [] (.thenN (.cond (!(r17)) (by kernel_rfl) ?_ ?_))
        · exact Sim.sr 1 [(4, qb false)] [] (.ret (.blockR (.thenR (.loopR (.blockR (.thenR .fn))))))
        · refine Sim.skip (.blockN (.thenN (.region0 (.rd 3 [(8, qj (iw .i64 (i12 + 1))), (116, qj (iw .i64 (i12 + 1))), (115, qj i12)] [] (.loopN (.pr [2, 8] [2] [] [(2, qp 2 0), (8, qj (iw .i64 (i12 + 1)))] [(2, some (.cells (w0 a0)))] ?_))))))
          exact ih_l13 (iw .i64 (i12 + 1))
    · refine Sim.exit (.thenX (.loopX (.blockX (.thenN (.seq (.sr 1 [(9, qj 0)] [] (.block (.loop (.pr [2, 9] [2] [] [(2, qp 2 0), (9, qj 0)] [(2, some (.cells (w0 a0)))] ?_)))))))))
      exact F10_l21_ok n a0 (n + 8) 0

def F10_l6 (n : Nat) (a0 : Note) (a1 : Int) : Nat → Int → Option Bool
  | 0, _ => none
  | m + 1, i5 =>
    if decide (i5 < ((a0.Hands).length : Int)) then
      (ix a0.Hands i5).bind fun (x7 : Hand) =>
      (F26 n x7.Cell).bind fun (r8 : Bool) =>
      if !(r8) then
        some false
      else
        if decide (x7.To < 0) then
          some false
        else
          if decide (imin a1 4 ≤ x7.To) then
            some false
          else
            if x7.To == a0.From then
              some false
            else
              if decide ((0 : Int) < i5) then
                (ix a0.Hands (IntKind.wrap .i64 (i5 - 1))).bind fun (x9 : Hand) =>
                if decide (x7.Cell ≤ x9.Cell) then
                  some false
                else
                  (F10_l6 n a0 a1 m) (IntKind.wrap .i64 (i5 + 1))
              else
                (F10_l6 n a0 a1 m) (IntKind.wrap .i64 (i5 + 1))
    else
      F10_l13 n a0 (n + 8) 0
theorem F10_l6_ok (n : Nat) (a0 : Note) (a1 : Int) : ∀ (m : Nat) (i5 : Int), SimL Try.prog D (n + 8) m p10c28 [(2, qp 2 0), (5, qj (imin a1 4)), (6, qj i5)] [(2, some (.cells [lj a0.From, lj a0.Beat, vw Thing.cod a0.Moved, vw Hand.cod a0.Hands, vw Thing.cod a0.Given, vw Command.cod a0.Watch]))] (F10_l6 n a0 a1 m i5) (QB 0 (QT Try.prog D (n + 8) p10c101 (QF false pc10_r 0 F10_e))) := by
  intro m_l6
  induction m_l6 with
  | zero => intro i5; exact SimL.zero'  rfl
  | succ m_l6 ih_l6 =>
    intro i5
    refine SimL.succ ?_
    unfold F10_l6
    refine Sim.seq (.seq (.rg [(2, qp 2 0), (5, qj (imin a1 4)), (6, qj i5)] [(2, some (.cells (w0 a0)))] (.rd 5 [(64, qb (decide (i5 < ((a0.Hands).length : Int)))), (63, qj ((a0.Hands).length : Int)), (62, .one (vw Hand.cod a0.Hands)), (61, qp 2 3), (60, qj i5)] [] (.thenN (.cond (decide (i5 < ((a0.Hands).length : Int))) (by kernel_rfl) ?_ ?_)))))
    · refine Sim.skip (.thenN (.seq (.block (.st 3 [(69, qj i5), (68, .one (vw Hand.cod a0.Hands)), (67, qp 2 3)] [] (.bind (og := ix a0.Hands i5) ⟨some 70, POp.iaddrS 2 (Operand.tmp 68) (Operand.tmp 69), none, []⟩ (fun x7 => [(70, .one (.eptr (Hand.cod.enc x7) 0))]) (fun x7 => []) (by kernel_rfl) (fun x7 hr => pOp_eff (by kernel_rfl) (by kernel_rfl) (eff_idx (c := Hand.cod) (l := a0.Hands) (k := .i64) (n := i5) (by kernel_rfl) (by kernel_rfl) (by kernel_rfl) hr)) (fun x7 => ?_))))))
      refine SimI.rd 3 [(7, qp 7 0), (71, .agg [lj x7.Cell, lj x7.To])] [(7, some (.cells [lj x7.Cell, lj x7.To])), (7, some (.cells [lj 0, lj 0]))] (.thenN (.st 2 [(73, qj x7.Cell), (72, qp 7 0)] [] (.bind (og := F26 n x7.Cell) ⟨some 74, POp.call false [[]] 26 [73], none, [(73, Hint.imm)]⟩ (fun r8 => [(74, qb r8)]) (fun r8 => []) (by kernel_rfl) (fun r8 hr => pOp_eff (by kernel_rfl) (by kernel_rfl) (eff_call (ARGS := [qj x7.Cell]) (by kernel_rfl) (args_clean (by kernel_rfl) args_nil) (F26_ok n x7.Cell r8 hr) (by kernel_rfl))) (fun r8 => ?_))))
      refine SimI.rn 2 [(76, qb (!(r8))), (75, qb (!(r8)))] [] (.split 76 (!(r8)) (by kernel_rfl) ?_ ?_)
      · exact SimI.rd 33 [(109, qb true), (108, tz), (107, tz), (106, tz), (105, tz), (104, tz), (103, tz), (102, tz), (101, tz), (100, tz), (99, tz), (98, tz), (97, tz), (96, tz), (95, tz), (94, qb true), (93, qb true), (92, tz), (91, tz), (90, tz), (89, tz), (88, tz), (87, qb true), (86, qb true), (85, tz), (84, tz), (83, tz), (82, tz), (81, qb true), (80, qb true), (79, tz), (78, tz), (77, tz)] [] (.thenN (.condT (by kernel_rfl) (.sr 1 [(4, qb false)] [] (.ret (.blockR (.thenR (.loopR (.blockR (.thenR .fn)))))))))
      · refine SimI.rn 5 [(81, qb (decide (x7.To < 0))), (80, qb (decide (x7.To < 0))), (79, qb (decide (x7.To < 0))), (78, qj x7.To), (77, qp 7 1)] [] (.split 81 (decide (x7.To < 0)) (by kernel_rfl) ?_ ?_)
        · exact SimI.rd 28 [(109, qb true), (108, tz), (107, tz), (106, tz), (105, tz), (104, tz), (103, tz), (102, tz), (101, tz), (100, tz), (99, tz), (98, tz), (97, tz), (96, tz), (95, tz), (94, qb true), (93, qb true), (92, tz), (91, tz), (90, tz), (89, tz), (88, tz), (87, qb true), (86, qb true), (85, tz), (84, tz), (83, tz), (82, tz)] [] (.thenN (.condT (by kernel_rfl) (.sr 1 [(4, qb false)] [] (.ret (.blockR (.thenR (.loopR (.blockR (.thenR .fn)))))))))
        · refine SimI.rn 6 [(87, qb (decide (imin a1 4 ≤ x7.To))), (86, qb (decide (imin a1 4 ≤ x7.To))), (85, qb (decide (imin a1 4 ≤ x7.To))), (84, qj (imin a1 4)), (83, qj x7.To), (82, qp 7 1)] [] (.split 87 (decide (imin a1 4 ≤ x7.To)) (by kernel_rfl) ?_ ?_)
          · exact SimI.rd 22 [(109, qb true), (108, tz), (107, tz), (106, tz), (105, tz), (104, tz), (103, tz), (102, tz), (101, tz), (100, tz), (99, tz), (98, tz), (97, tz), (96, tz), (95, tz), (94, qb true), (93, qb true), (92, tz), (91, tz), (90, tz), (89, tz), (88, tz)] [] (.thenN (.condT (by kernel_rfl) (.sr 1 [(4, qb false)] [] (.ret (.blockR (.thenR (.loopR (.blockR (.thenR .fn)))))))))
          · refine SimI.rn 7 [(94, qb (x7.To == a0.From)), (93, qb (x7.To == a0.From)), (92, qb (x7.To == a0.From)), (91, qj a0.From), (90, qp 2 0), (89, qj x7.To), (88, qp 7 1)] [] (.split 94 (x7.To == a0.From) (by kernel_rfl) ?_ ?_)
            · exact SimI.rd 15 [(109, qb true), (108, tz), (107, tz), (106, tz), (105, tz), (104, tz), (103, tz), (102, tz), (101, tz), (100, tz), (99, tz), (98, tz), (97, tz), (96, tz), (95, tz)] [] (.thenN (.condT (by kernel_rfl) (.sr 1 [(4, qb false)] [] (.ret (.blockR (.thenR (.loopR (.blockR (.thenR .fn)))))))))
            · refine SimI.rn 3 [(97, qb (decide ((0 : Int) < i5))), (96, qb (decide ((0 : Int) < i5))), (95, qj i5)] [] (.split 97 (decide ((0 : Int) < i5)) (by kernel_rfl) ?_ ?_)
              · refine SimI.rn 6 [(103, qj (iw .i64 (i5 - 1))), (102, qj i5), (101, .one (vw Hand.cod a0.Hands)), (100, qp 2 3), (99, qj x7.Cell), (98, qp 7 0)] [] (.bind (og := ix a0.Hands (iw .i64 (i5 - 1))) ⟨some 104, POp.iaddrS 2 (Operand.tmp 101) (Operand.tmp 103), some (97, true), [(101, Hint.imm), (103, Hint.imm)]⟩ (fun x9 => [(104, .one (.eptr (Hand.cod.enc x9) 0))]) (fun x9 => []) (by kernel_rfl) (fun x9 hr => pOp_eff (by kernel_rfl) (by kernel_rfl) (eff_idx (c := Hand.cod) (l := a0.Hands) (k := .i64) (n := IntKind.wrap .i64 (i5 - 1)) (by kernel_rfl) (by kernel_rfl) (by kernel_rfl) hr)) (fun x9 => ?_))
                refine SimI.rd 5 [(109, qb (decide (x7.Cell ≤ x9.Cell))), (108, qb (decide (x7.Cell ≤ x9.Cell))), (107, qb (decide (x7.Cell ≤ x9.Cell))), (106, qj x9.Cell), (105, .one (.eptr (Hand.cod.enc x9) 0))] [] (.thenN (.cond (decide (x7.Cell ≤ x9.Cell)) (by kernel_rfl) ?_ ?_))
                · exact Sim.sr 1 [(4, qb false)] [] (.ret (.blockR (.thenR (.loopR (.blockR (.thenR .fn))))))
                · refine Sim.skip (.blockN (.thenN (.region0 (.rd 3 [(6, qj (iw .i64 (i5 + 1))), (66, qj (iw .i64 (i5 + 1))), (65, qj i5)] [] (.loopN (.pr [2, 5, 6] [2, 7] [] [(2, qp 2 0), (5, qj (imin a1 4)), (6, qj (iw .i64 (i5 + 1)))] [(2, some (.cells (w0 a0)))] ?_))))))
                  exact ih_l6 (iw .i64 (i5 + 1))
              · refine SimI.rd 12 [(109, qb false), (108, qb false), (107, tz), (106, tz), (105, tz), (104, tz), (103, tz), (102, tz), (101, tz), (100, tz), (99, tz), (98, tz)] [] (.thenN (.condF (by kernel_rfl) (.skip (.blockN (.thenN (.region0 (.rd 3 [(6, qj (iw .i64 (i5 + 1))), (66, qj (iw .i64 (i5 + 1))), (65, qj i5)] [] (.loopN (.pr [2, 5, 6] [2, 7] [] [(2, qp 2 0), (5, qj (imin a1 4)), (6, qj (iw .i64 (i5 + 1)))] [(2, some (.cells (w0 a0)))] ?_)))))))))
                exact ih_l6 (iw .i64 (i5 + 1))
    · refine Sim.exit (.thenX (.loopX (.blockX (.thenN (.seq (.sr 1 [(8, qj 0)] [] (.block (.loop (.pr [2, 8] [2] [] [(2, qp 2 0), (8, qj 0)] [(2, some (.cells (w0 a0)))] ?_)))))))))
      exact F10_l13_ok n a0 (n + 8) 0

def F10 (n : Nat) (a0 : Note) (a1 : Int) : Option Bool :=
  if decide (a0.From < 0) then
    some false
  else
    if decide (imin a1 4 ≤ a0.From) then
      some false
    else
      if decide (a0.Beat < 0) then
        some false
      else
        if decide ((1073741824 : Int) < a0.Beat) then
          some false
        else
          (F25 n a0.Moved).bind fun (r1 : Bool) =>
          if !(r1) then
            some false
          else
            (F25 n a0.Given).bind fun (r2 : Bool) =>
            if !(r2) then
              some false
            else
              if decide ((16 : Int) < ((a0.Hands).length : Int)) then
                some false
              else
                if decide ((20 : Int) < ((a0.Watch).length : Int)) then
                  some false
                else
                  F10_l6 n a0 a1 (n + 8) 0
theorem F10_ok (n : Nat) (a0 : Note) (a1 : Int) : ∀ r, F10 n a0 a1 = some r → D 10 [.agg [li .i64 a0.From, li .i64 a0.Beat, vw Thing.cod a0.Moved, vw Hand.cod a0.Hands, vw Thing.cod a0.Given, vw Command.cod a0.Watch], .one (li .i64 a1)] [] = some (F10_e r) := by
  refine fn_to (D := D) (n := n + 8) (nt := 176) (rs := pc10_r) (c := p10c105) (L := [(0, .agg (w0 a0)), (1, qj a1)]) (M := []) (k := 0) rfl rfl rfl rfl rfl rfl rfl ?_
  unfold F10
  refine Sim.sr 2 [(4, qb false), (2, qp 2 0)] [(2, some (.cells (w0 a0)))] (.sr 3 [(5, qj (imin a1 4)), (16, qj (imin a1 4)), (15, qj a1)] [] (.seq (.st 4 [(20, qb (decide (a0.From < 0))), (19, qb (decide (a0.From < 0))), (18, qj a0.From), (17, qp 2 0)] [] (.split 20 (decide (a0.From < 0)) (by kernel_rfl) ?_ ?_))))
  · exact SimI.rd 39 [(59, qb true), (58, tz), (57, tz), (56, tz), (55, tz), (54, qb true), (53, qb true), (52, tz), (51, tz), (50, tz), (49, tz), (48, qb true), (47, qb true), (46, tz), (45, tz), (44, tz), (43, tz), (42, qb true), (41, qb true), (40, tz), (39, tz), (38, tz), (37, tz), (36, qb true), (35, qb true), (34, tz), (33, tz), (32, tz), (31, qb true), (30, qb true), (29, tz), (28, tz), (27, tz), (26, qb true), (25, qb true), (24, tz), (23, tz), (22, tz), (21, tz)] [] (.thenN (.condT (by kernel_rfl) (.sr 1 [(4, qb false)] [] (.ret (.thenR .fn)))))
  · refine SimI.rn 6 [(26, qb (decide (imin a1 4 ≤ a0.From))), (25, qb (decide (imin a1 4 ≤ a0.From))), (24, qb (decide (imin a1 4 ≤ a0.From))), (23, qj (imin a1 4)), (22, qj a0.From), (21, qp 2 0)] [] (.split 26 (decide (imin a1 4 ≤ a0.From)) (by kernel_rfl) ?_ ?_)
    · exact SimI.rd 33 [(59, qb true), (58, tz), (57, tz), (56, tz), (55, tz), (54, qb true), (53, qb true), (52, tz), (51, tz), (50, tz), (49, tz), (48, qb true), (47, qb true), (46, tz), (45, tz), (44, tz), (43, tz), (42, qb true), (41, qb true), (40, tz), (39, tz), (38, tz), (37, tz), (36, qb true), (35, qb true), (34, tz), (33, tz), (32, tz), (31, qb true), (30, qb true), (29, tz), (28, tz), (27, tz)] [] (.thenN (.condT (by kernel_rfl) (.sr 1 [(4, qb false)] [] (.ret (.thenR .fn)))))
    · refine SimI.rn 5 [(31, qb (decide (a0.Beat < 0))), (30, qb (decide (a0.Beat < 0))), (29, qb (decide (a0.Beat < 0))), (28, qj a0.Beat), (27, qp 2 1)] [] (.split 31 (decide (a0.Beat < 0)) (by kernel_rfl) ?_ ?_)
      · exact SimI.rd 28 [(59, qb true), (58, tz), (57, tz), (56, tz), (55, tz), (54, qb true), (53, qb true), (52, tz), (51, tz), (50, tz), (49, tz), (48, qb true), (47, qb true), (46, tz), (45, tz), (44, tz), (43, tz), (42, qb true), (41, qb true), (40, tz), (39, tz), (38, tz), (37, tz), (36, qb true), (35, qb true), (34, tz), (33, tz), (32, tz)] [] (.thenN (.condT (by kernel_rfl) (.sr 1 [(4, qb false)] [] (.ret (.thenR .fn)))))
      · refine SimI.rn 5 [(36, qb (decide ((1073741824 : Int) < a0.Beat))), (35, qb (decide ((1073741824 : Int) < a0.Beat))), (34, qb (decide ((1073741824 : Int) < a0.Beat))), (33, qj a0.Beat), (32, qp 2 1)] [] (.split 36 (decide ((1073741824 : Int) < a0.Beat)) (by kernel_rfl) ?_ ?_)
        · exact SimI.rd 23 [(59, qb true), (58, tz), (57, tz), (56, tz), (55, tz), (54, qb true), (53, qb true), (52, tz), (51, tz), (50, tz), (49, tz), (48, qb true), (47, qb true), (46, tz), (45, tz), (44, tz), (43, tz), (42, qb true), (41, qb true), (40, tz), (39, tz), (38, tz), (37, tz)] [] (.thenN (.condT (by kernel_rfl) (.sr 1 [(4, qb false)] [] (.ret (.thenR .fn)))))
        · refine SimI.rn 2 [(38, .one (vw Thing.cod a0.Moved)), (37, qp 2 2)] [] (.cl 39 true [[(0, 11)]] 25 [38] (some (36, false)) (fun r1 => qb r1) [.one (vw Thing.cod a0.Moved)] (F25_ok n a0.Moved) (fun r1 => ?_))
          refine SimI.rn 3 [(42, qb (!(r1))), (41, qb (!(r1))), (40, qb (!(r1)))] [] (.split 42 (!(r1)) (by kernel_rfl) ?_ ?_)
          · exact SimI.rd 17 [(59, qb true), (58, tz), (57, tz), (56, tz), (55, tz), (54, qb true), (53, qb true), (52, tz), (51, tz), (50, tz), (49, tz), (48, qb true), (47, qb true), (46, tz), (45, tz), (44, tz), (43, tz)] [] (.thenN (.condT (by kernel_rfl) (.sr 1 [(4, qb false)] [] (.ret (.thenR .fn)))))
          · refine SimI.rn 2 [(44, .one (vw Thing.cod a0.Given)), (43, qp 2 4)] [] (.cl 45 true [[(0, 11)]] 25 [44] (some (42, false)) (fun r2 => qb r2) [.one (vw Thing.cod a0.Given)] (F25_ok n a0.Given) (fun r2 => ?_))
            refine SimI.rn 3 [(48, qb (!(r2))), (47, qb (!(r2))), (46, qb (!(r2)))] [] (.split 48 (!(r2)) (by kernel_rfl) ?_ ?_)
            · exact SimI.rd 11 [(59, qb true), (58, tz), (57, tz), (56, tz), (55, tz), (54, qb true), (53, qb true), (52, tz), (51, tz), (50, tz), (49, tz)] [] (.thenN (.condT (by kernel_rfl) (.sr 1 [(4, qb false)] [] (.ret (.thenR .fn)))))
            · refine SimI.rn 6 [(54, qb (decide ((16 : Int) < ((a0.Hands).length : Int)))), (53, qb (decide ((16 : Int) < ((a0.Hands).length : Int)))), (52, qb (decide ((16 : Int) < ((a0.Hands).length : Int)))), (51, qj ((a0.Hands).length : Int)), (50, .one (vw Hand.cod a0.Hands)), (49, qp 2 3)] [] (.split 54 (decide ((16 : Int) < ((a0.Hands).length : Int))) (by kernel_rfl) ?_ ?_)
              · exact SimI.rd 5 [(59, qb true), (58, tz), (57, tz), (56, tz), (55, tz)] [] (.thenN (.condT (by kernel_rfl) (.sr 1 [(4, qb false)] [] (.ret (.thenR .fn)))))
              · refine SimI.rd 5 [(59, qb (decide ((20 : Int) < ((a0.Watch).length : Int)))), (58, qb (decide ((20 : Int) < ((a0.Watch).length : Int)))), (57, qj ((a0.Watch).length : Int)), (56, .one (vw Command.cod a0.Watch)), (55, qp 2 5)] [] (.thenN (.cond (decide ((20 : Int) < ((a0.Watch).length : Int))) (by kernel_rfl) ?_ ?_))
                · exact Sim.sr 1 [(4, qb false)] [] (.ret (.thenR .fn))
                · refine Sim.skip (.thenN (.seq (.sr 1 [(6, qj 0)] [] (.block (.loop (.pr [2, 5, 6] [2, 7] [] [(2, qp 2 0), (5, qj (imin a1 4)), (6, qj 0)] [(2, some (.cells (w0 a0)))] ?_))))))
                  exact F10_l6_ok n a0 a1 (n + 8) 0


end Go.Proofs.Ytpjejnefegdoeaa
