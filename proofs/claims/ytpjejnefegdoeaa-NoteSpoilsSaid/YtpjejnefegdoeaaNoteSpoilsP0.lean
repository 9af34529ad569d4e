/-
  Functions of the program as functions of Lean. No condition.
-/
import Derived.Test.YtpjejnefegdoeaaNoteSpoilsE
namespace Go.Proofs.Ytpjejnefegdoeaa
open Go Go.Rx
set_option maxRecDepth 100000
set_option linter.unusedVariables false
set_option linter.unusedSimpArgs false
set_option linter.unnecessarySimpa false
-- 60: vedette/fields.IsField
def F60_e : Bool → PV × List Ob := fun r => (.one (lb r), [])
def F60 (n : Nat) (a0 : Field) : Option Bool :=
  if a0.N == 0 then
    some (decide ((a0.Text.size : Int) ≤ 12))
  else
    if a0.Text.toList == ByteArray.empty.toList then
      some (decide ((a0.Text.size : Int) ≤ 12))
    else
      some false
theorem F60_ok (n : Nat) (a0 : Field) : ∀ r, F60 n a0 = some r → D 60 [.agg [li .i64 a0.N, ls a0.Text]] [] = some (F60_e r) := by
  refine fn_to (D := D) (n := n + 8) (nt := 17) (rs := pc60_r) (c := pc60_c5) (L := [(0, .agg [lj a0.N, ls a0.Text])]) (M := []) (k := 0) rfl rfl rfl rfl rfl rfl rfl ?_
  unfold F60
  refine Sim.sr 2 [(2, qb false), (1, qp 1 0)] [(1, some (.cells [lj a0.N, ls a0.Text]))] (.st 4 [(6, qb (a0.N == 0)), (5, qb (a0.N == 0)), (4, qj a0.N), (3, qp 1 0)] [] (.split 6 (a0.N == 0) (by kernel_rfl) ?_ ?_))
  · exact SimI.rd 11 [(2, qb (decide ((a0.Text.size : Int) ≤ 12))), (16, qb (decide ((a0.Text.size : Int) ≤ 12))), (15, qb (decide ((a0.Text.size : Int) ≤ 12))), (14, qj (a0.Text.size : Int)), (13, qs a0.Text), (12, qp 1 1), (11, qb true), (10, qb true), (9, .tup []), (8, .tup []), (7, .tup [])] [] (.thenN (.ret .fn))
  · refine SimI.rn 5 [(11, qb (a0.Text.toList == be.toList)), (10, qb (a0.Text.toList == be.toList)), (9, qb (a0.Text.toList == be.toList)), (8, qs a0.Text), (7, qp 1 1)] [] (.split 11 (a0.Text.toList == be.toList) (by kernel_rfl) ?_ ?_)
    · exact SimI.rd 6 [(2, qb (decide ((a0.Text.size : Int) ≤ 12))), (16, qb (decide ((a0.Text.size : Int) ≤ 12))), (15, qb (decide ((a0.Text.size : Int) ≤ 12))), (14, qj (a0.Text.size : Int)), (13, qs a0.Text), (12, qp 1 1)] [] (.thenN (.ret .fn))
    · exact SimI.rd 6 [(2, qb false), (16, qb false), (15, .tup []), (14, .tup []), (13, .tup []), (12, .tup [])] [] (.thenN (.ret .fn))


-- 61: vedette/cmd.core
def F61_e : Command → PV × List Ob := fun r => (.agg (Command.cells r), [])
def F61 (n : Nat) (a0 : Command) : Option Command :=
  if a0.Kind == 1 then
    some (Command.mk a0.Kind 0 0 0 a0.At a0.F (Field.mk 0 ByteArray.empty) a0.Client a0.Session (Rect.mk 0 0 0 0))
  else
    if a0.Kind == 2 then
      some (Command.mk a0.Kind a0.ID 0 0 a0.At (A4.mk (Field.mk 0 ByteArray.empty) (Field.mk 0 ByteArray.empty) (Field.mk 0 ByteArray.empty) (Field.mk 0 ByteArray.empty)) (Field.mk 0 ByteArray.empty) a0.Client a0.Session (Rect.mk 0 0 0 0))
    else
      if a0.Kind == 3 then
        some (Command.mk a0.Kind a0.ID a0.Which 0 (Point.mk 0 0) (A4.mk (Field.mk 0 ByteArray.empty) (Field.mk 0 ByteArray.empty) (Field.mk 0 ByteArray.empty) (Field.mk 0 ByteArray.empty)) a0.Value a0.Client a0.Session (Rect.mk 0 0 0 0))
      else
        if a0.Kind == 4 then
          some (Command.mk a0.Kind a0.ID 0 0 (Point.mk 0 0) (A4.mk (Field.mk 0 ByteArray.empty) (Field.mk 0 ByteArray.empty) (Field.mk 0 ByteArray.empty) (Field.mk 0 ByteArray.empty)) (Field.mk 0 ByteArray.empty) a0.Client a0.Session (Rect.mk 0 0 0 0))
        else
          if a0.Kind == 5 then
            some (Command.mk a0.Kind 0 a0.Which a0.To (Point.mk 0 0) (A4.mk (Field.mk 0 ByteArray.empty) (Field.mk 0 ByteArray.empty) (Field.mk 0 ByteArray.empty) (Field.mk 0 ByteArray.empty)) (Field.mk 0 ByteArray.empty) a0.Client a0.Session (Rect.mk 0 0 0 0))
          else
            if a0.Kind == 6 then
              if a0.Kind == 6 then
                some (Command.mk a0.Kind 0 0 0 (Point.mk 0 0) (A4.mk (Field.mk 0 ByteArray.empty) (Field.mk 0 ByteArray.empty) (Field.mk 0 ByteArray.empty) (Field.mk 0 ByteArray.empty)) (Field.mk 0 ByteArray.empty) a0.Client a0.Session a0.Rect)
              else
                some (Command.mk a0.Kind 0 0 0 (Point.mk 0 0) (A4.mk (Field.mk 0 ByteArray.empty) (Field.mk 0 ByteArray.empty) (Field.mk 0 ByteArray.empty) (Field.mk 0 ByteArray.empty)) (Field.mk 0 ByteArray.empty) a0.Client a0.Session (Rect.mk 0 0 0 0))
            else
              if a0.Kind == 7 then
                some (Command.mk a0.Kind 0 0 0 (Point.mk 0 0) (A4.mk (Field.mk 0 ByteArray.empty) (Field.mk 0 ByteArray.empty) (Field.mk 0 ByteArray.empty) (Field.mk 0 ByteArray.empty)) (Field.mk 0 ByteArray.empty) a0.Client a0.Session a0.Rect)
              else
                some (Command.mk a0.Kind 0 0 0 (Point.mk 0 0) (A4.mk (Field.mk 0 ByteArray.empty) (Field.mk 0 ByteArray.empty) (Field.mk 0 ByteArray.empty) (Field.mk 0 ByteArray.empty)) (Field.mk 0 ByteArray.empty) a0.Client a0.Session (Rect.mk 0 0 0 0))
theorem F61_ok (n : Nat) (a0 : Command) : ∀ r, F61 n a0 = some r → D 61 [.agg (Command.cells a0)] [] = some (F61_e r) := by
  refine fn_to (D := D) (n := n + 8) (nt := 60) (rs := pc61_r) (c := pc61_c40) (L := [(0, .agg (Command.cells a0))]) (M := []) (k := 0) rfl rfl rfl rfl rfl rfl rfl ?_
  unfold F61
  refine Sim.sr 2 [(2, qp 2 0), (1, qp 1 0)] [(2, some (.cells [lj 0, lj 0, lj 0, lj 0, lj 0, lj 0, lj 0, ls be, lj 0, ls be, lj 0, ls be, lj 0, ls be, lj 0, ls be, lj 0, lj 0, lj 0, lj 0, lj 0, lj 0])), (1, some (.cells (Command.cells a0)))] (.sr 9 [(3, qp 3 0), (10, .agg [lj a0.Kind, lj 0, lj 0, lj 0, lj 0, lj 0, lj 0, ls be, lj 0, ls be, lj 0, ls be, lj 0, ls be, lj 0, ls be, lj a0.Client, lj a0.Session, lj 0, lj 0, lj 0, lj 0]), (9, qj a0.Session), (8, qp 1 17), (7, qj a0.Client), (6, qp 1 16), (5, qj a0.Kind), (4, qp 1 0)] [(3, some (.cells [lj a0.Kind, lj 0, lj 0, lj 0, lj 0, lj 0, lj 0, ls be, lj 0, ls be, lj 0, ls be, lj 0, ls be, lj 0, ls be, lj a0.Client, lj a0.Session, lj 0, lj 0, lj 0, lj 0])), (3, some (.cells [lj 0, lj 0, lj 0, lj 0, lj 0, lj 0, lj 0, ls be, lj 0, ls be, lj 0, ls be, lj 0, ls be, lj 0, ls be, lj 0, lj 0, lj 0, lj 0, lj 0, lj 0]))] (.seq (.sr 2 [(12, qj a0.Kind), (11, qp 1 0)] [] (.block (.sr 2 [(13, qb (a0.Kind == 1)), (14, qb (a0.Kind == 1))] [] (.cond (a0.Kind == 1) (by kernel_rfl) ?_ ?_))))))
  · exact Sim.region0 (.rd 8 [(20, qp 3 6), (19, qp 3 4), (18, .agg (A4_Field.cells a0.F)), (17, qp 1 6), (16, .agg [lj a0.At.X, lj a0.At.Y]), (15, qp 1 4)] [(3, some (.cells [lj a0.Kind, lj 0, lj 0, lj 0, lj a0.At.X, lj a0.At.Y, lj a0.F.a0.N, ls a0.F.a0.Text, lj a0.F.a1.N, ls a0.F.a1.Text, lj a0.F.a2.N, ls a0.F.a2.Text, lj a0.F.a3.N, ls a0.F.a3.Text, lj 0, ls be, lj a0.Client, lj a0.Session, lj 0, lj 0, lj 0, lj 0])), (3, some (.cells [lj a0.Kind, lj 0, lj 0, lj 0, lj a0.At.X, lj a0.At.Y, lj 0, ls be, lj 0, ls be, lj 0, ls be, lj 0, ls be, lj 0, ls be, lj a0.Client, lj a0.Session, lj 0, lj 0, lj 0, lj 0]))] (.blockN (.thenN (.sr 2 [(59, .agg [lj a0.Kind, lj 0, lj 0, lj 0, lj a0.At.X, lj a0.At.Y, lj a0.F.a0.N, ls a0.F.a0.Text, lj a0.F.a1.N, ls a0.F.a1.Text, lj a0.F.a2.N, ls a0.F.a2.Text, lj a0.F.a3.N, ls a0.F.a3.Text, lj 0, ls be, lj a0.Client, lj a0.Session, lj 0, lj 0, lj 0, lj 0])] [(2, some (.cells [lj a0.Kind, lj 0, lj 0, lj 0, lj a0.At.X, lj a0.At.Y, lj a0.F.a0.N, ls a0.F.a0.Text, lj a0.F.a1.N, ls a0.F.a1.Text, lj a0.F.a2.N, ls a0.F.a2.Text, lj a0.F.a3.N, ls a0.F.a3.Text, lj 0, ls be, lj a0.Client, lj a0.Session, lj 0, lj 0, lj 0, lj 0]))] (.ret .fn)))))
  · refine Sim.sr 2 [(21, qb (a0.Kind == 2)), (22, qb (a0.Kind == 2))] [] (.cond (a0.Kind == 2) (by kernel_rfl) ?_ ?_)
    · exact Sim.region0 (.rd 8 [(28, qp 3 4), (27, qp 3 1), (26, .agg [lj a0.At.X, lj a0.At.Y]), (25, qp 1 4), (24, qj a0.ID), (23, qp 1 1)] [(3, some (.cells [lj a0.Kind, lj a0.ID, lj 0, lj 0, lj a0.At.X, lj a0.At.Y, lj 0, ls be, lj 0, ls be, lj 0, ls be, lj 0, ls be, lj 0, ls be, lj a0.Client, lj a0.Session, lj 0, lj 0, lj 0, lj 0])), (3, some (.cells [lj a0.Kind, lj a0.ID, lj 0, lj 0, lj 0, lj 0, lj 0, ls be, lj 0, ls be, lj 0, ls be, lj 0, ls be, lj 0, ls be, lj a0.Client, lj a0.Session, lj 0, lj 0, lj 0, lj 0]))] (.blockN (.thenN (.sr 2 [(59, .agg [lj a0.Kind, lj a0.ID, lj 0, lj 0, lj a0.At.X, lj a0.At.Y, lj 0, ls be, lj 0, ls be, lj 0, ls be, lj 0, ls be, lj 0, ls be, lj a0.Client, lj a0.Session, lj 0, lj 0, lj 0, lj 0])] [(2, some (.cells [lj a0.Kind, lj a0.ID, lj 0, lj 0, lj a0.At.X, lj a0.At.Y, lj 0, ls be, lj 0, ls be, lj 0, ls be, lj 0, ls be, lj 0, ls be, lj a0.Client, lj a0.Session, lj 0, lj 0, lj 0, lj 0]))] (.ret .fn)))))
    · refine Sim.sr 2 [(29, qb (a0.Kind == 3)), (30, qb (a0.Kind == 3))] [] (.cond (a0.Kind == 3) (by kernel_rfl) ?_ ?_)
      · exact Sim.region0 (.rd 12 [(39, qp 3 14), (38, qp 3 2), (37, qp 3 1), (36, .agg [lj a0.Value.N, ls a0.Value.Text]), (35, qp 1 14), (34, qj a0.Which), (33, qp 1 2), (32, qj a0.ID), (31, qp 1 1)] [(3, some (.cells [lj a0.Kind, lj a0.ID, lj a0.Which, lj 0, lj 0, lj 0, lj 0, ls be, lj 0, ls be, lj 0, ls be, lj 0, ls be, lj a0.Value.N, ls a0.Value.Text, lj a0.Client, lj a0.Session, lj 0, lj 0, lj 0, lj 0])), (3, some (.cells [lj a0.Kind, lj a0.ID, lj a0.Which, lj 0, lj 0, lj 0, lj 0, ls be, lj 0, ls be, lj 0, ls be, lj 0, ls be, lj 0, ls be, lj a0.Client, lj a0.Session, lj 0, lj 0, lj 0, lj 0])), (3, some (.cells [lj a0.Kind, lj a0.ID, lj 0, lj 0, lj 0, lj 0, lj 0, ls be, lj 0, ls be, lj 0, ls be, lj 0, ls be, lj 0, ls be, lj a0.Client, lj a0.Session, lj 0, lj 0, lj 0, lj 0]))] (.blockN (.thenN (.sr 2 [(59, .agg [lj a0.Kind, lj a0.ID, lj a0.Which, lj 0, lj 0, lj 0, lj 0, ls be, lj 0, ls be, lj 0, ls be, lj 0, ls be, lj a0.Value.N, ls a0.Value.Text, lj a0.Client, lj a0.Session, lj 0, lj 0, lj 0, lj 0])] [(2, some (.cells [lj a0.Kind, lj a0.ID, lj a0.Which, lj 0, lj 0, lj 0, lj 0, ls be, lj 0, ls be, lj 0, ls be, lj 0, ls be, lj a0.Value.N, ls a0.Value.Text, lj a0.Client, lj a0.Session, lj 0, lj 0, lj 0, lj 0]))] (.ret .fn)))))
      · refine Sim.sr 2 [(40, qb (a0.Kind == 4)), (41, qb (a0.Kind == 4))] [] (.cond (a0.Kind == 4) (by kernel_rfl) ?_ ?_)
        · exact Sim.region0 (.rd 4 [(44, qp 3 1), (43, qj a0.ID), (42, qp 1 1)] [(3, some (.cells [lj a0.Kind, lj a0.ID, lj 0, lj 0, lj 0, lj 0, lj 0, ls be, lj 0, ls be, lj 0, ls be, lj 0, ls be, lj 0, ls be, lj a0.Client, lj a0.Session, lj 0, lj 0, lj 0, lj 0]))] (.blockN (.thenN (.sr 2 [(59, .agg [lj a0.Kind, lj a0.ID, lj 0, lj 0, lj 0, lj 0, lj 0, ls be, lj 0, ls be, lj 0, ls be, lj 0, ls be, lj 0, ls be, lj a0.Client, lj a0.Session, lj 0, lj 0, lj 0, lj 0])] [(2, some (.cells [lj a0.Kind, lj a0.ID, lj 0, lj 0, lj 0, lj 0, lj 0, ls be, lj 0, ls be, lj 0, ls be, lj 0, ls be, lj 0, ls be, lj a0.Client, lj a0.Session, lj 0, lj 0, lj 0, lj 0]))] (.ret .fn)))))
        · refine Sim.sr 2 [(45, qb (a0.Kind == 5)), (46, qb (a0.Kind == 5))] [] (.cond (a0.Kind == 5) (by kernel_rfl) ?_ ?_)
          · exact Sim.region0 (.rd 8 [(52, qp 3 3), (51, qp 3 2), (50, qj a0.To), (49, qp 1 3), (48, qj a0.Which), (47, qp 1 2)] [(3, some (.cells [lj a0.Kind, lj 0, lj a0.Which, lj a0.To, lj 0, lj 0, lj 0, ls be, lj 0, ls be, lj 0, ls be, lj 0, ls be, lj 0, ls be, lj a0.Client, lj a0.Session, lj 0, lj 0, lj 0, lj 0])), (3, some (.cells [lj a0.Kind, lj 0, lj a0.Which, lj 0, lj 0, lj 0, lj 0, ls be, lj 0, ls be, lj 0, ls be, lj 0, ls be, lj 0, ls be, lj a0.Client, lj a0.Session, lj 0, lj 0, lj 0, lj 0]))] (.blockN (.thenN (.sr 2 [(59, .agg [lj a0.Kind, lj 0, lj a0.Which, lj a0.To, lj 0, lj 0, lj 0, ls be, lj 0, ls be, lj 0, ls be, lj 0, ls be, lj 0, ls be, lj a0.Client, lj a0.Session, lj 0, lj 0, lj 0, lj 0])] [(2, some (.cells [lj a0.Kind, lj 0, lj a0.Which, lj a0.To, lj 0, lj 0, lj 0, ls be, lj 0, ls be, lj 0, ls be, lj 0, ls be, lj 0, ls be, lj a0.Client, lj a0.Session, lj 0, lj 0, lj 0, lj 0]))] (.ret .fn)))))
          · refine Sim.seq (.sr 2 [(53, qb (a0.Kind == 6)), (54, qb (a0.Kind == 6))] [] (.cond (a0.Kind == 6) (by kernel_rfl) ?_ ?_))
            · refine Sim.skip (.thenN (.cond (a0.Kind == 6) (by kernel_rfl) ?_ ?_))
              · exact Sim.region0 (.rd 4 [(58, qp 3 18), (57, .agg (Rect.cells a0.Rect)), (56, qp 1 18)] [(3, some (.cells [lj a0.Kind, lj 0, lj 0, lj 0, lj 0, lj 0, lj 0, ls be, lj 0, ls be, lj 0, ls be, lj 0, ls be, lj 0, ls be, lj a0.Client, lj a0.Session, lj a0.Rect.X0, lj a0.Rect.Y0, lj a0.Rect.X1, lj a0.Rect.Y1]))] (.blockN (.thenN (.sr 2 [(59, .agg [lj a0.Kind, lj 0, lj 0, lj 0, lj 0, lj 0, lj 0, ls be, lj 0, ls be, lj 0, ls be, lj 0, ls be, lj 0, ls be, lj a0.Client, lj a0.Session, lj a0.Rect.X0, lj a0.Rect.Y0, lj a0.Rect.X1, lj a0.Rect.Y1])] [(2, some (.cells [lj a0.Kind, lj 0, lj 0, lj 0, lj 0, lj 0, lj 0, ls be, lj 0, ls be, lj 0, ls be, lj 0, ls be, lj 0, ls be, lj a0.Client, lj a0.Session, lj a0.Rect.X0, lj a0.Rect.Y0, lj a0.Rect.X1, lj a0.Rect.Y1]))] (.ret .fn)))))
              · exact Sim.skip (.blockN (.thenN (.sr 2 [(59, .agg [lj a0.Kind, lj 0, lj 0, lj 0, lj 0, lj 0, lj 0, ls be, lj 0, ls be, lj 0, ls be, lj 0, ls be, lj 0, ls be, lj a0.Client, lj a0.Session, lj 0, lj 0, lj 0, lj 0])] [(2, some (.cells [lj a0.Kind, lj 0, lj 0, lj 0, lj 0, lj 0, lj 0, ls be, lj 0, ls be, lj 0, ls be, lj 0, ls be, lj 0, ls be, lj a0.Client, lj a0.Session, lj 0, lj 0, lj 0, lj 0]))] (.ret .fn))))
            · refine Sim.region0 (.rd 2 [(53, qb (a0.Kind == 7)), (55, qb (a0.Kind == 7))] [] (.thenN (.cond (a0.Kind == 7) (by kernel_rfl) ?_ ?_)))
              · exact Sim.region0 (.rd 4 [(58, qp 3 18), (57, .agg (Rect.cells a0.Rect)), (56, qp 1 18)] [(3, some (.cells [lj a0.Kind, lj 0, lj 0, lj 0, lj 0, lj 0, lj 0, ls be, lj 0, ls be, lj 0, ls be, lj 0, ls be, lj 0, ls be, lj a0.Client, lj a0.Session, lj a0.Rect.X0, lj a0.Rect.Y0, lj a0.Rect.X1, lj a0.Rect.Y1]))] (.blockN (.thenN (.sr 2 [(59, .agg [lj a0.Kind, lj 0, lj 0, lj 0, lj 0, lj 0, lj 0, ls be, lj 0, ls be, lj 0, ls be, lj 0, ls be, lj 0, ls be, lj a0.Client, lj a0.Session, lj a0.Rect.X0, lj a0.Rect.Y0, lj a0.Rect.X1, lj a0.Rect.Y1])] [(2, some (.cells [lj a0.Kind, lj 0, lj 0, lj 0, lj 0, lj 0, lj 0, ls be, lj 0, ls be, lj 0, ls be, lj 0, ls be, lj 0, ls be, lj a0.Client, lj a0.Session, lj a0.Rect.X0, lj a0.Rect.Y0, lj a0.Rect.X1, lj a0.Rect.Y1]))] (.ret .fn)))))
              · exact Sim.skip (.blockN (.thenN (.sr 2 [(59, .agg [lj a0.Kind, lj 0, lj 0, lj 0, lj 0, lj 0, lj 0, ls be, lj 0, ls be, lj 0, ls be, lj 0, ls be, lj 0, ls be, lj a0.Client, lj a0.Session, lj 0, lj 0, lj 0, lj 0])] [(2, some (.cells [lj a0.Kind, lj 0, lj 0, lj 0, lj 0, lj 0, lj 0, ls be, lj 0, ls be, lj 0, ls be, lj 0, ls be, lj 0, ls be, lj a0.Client, lj a0.Session, lj 0, lj 0, lj 0, lj 0]))] (.ret .fn))))


-- 62: vedette/cmd.near
def F62_e : Bool → PV × List Ob := fun r => (.one (lb r), [])
def F62_l4 (n : Nat) (a0 : (List Int)) : Nat → Int → Option Bool
  | 0, _ => none
  | m + 1, i3 =>
    if decide (i3 < ((a0).length : Int)) then
      (ix a0 i3).bind fun (x5 : Int) =>
      if decide (((-1000) : Int) ≤ x5) then
        if decide (x5 ≤ 1000) then
          (F62_l4 n a0 m) (IntKind.wrap .i64 (i3 + 1))
        else
          some false
      else
        some false
    else
      some true
theorem F62_l4_ok (n : Nat) (a0 : (List Int)) : ∀ (m : Nat) (i3 : Int), SimL Try.prog D (n + 8) m pc62_c23 [(5, .one (vw (codI .i64) a0)), (6, qj ((a0).length : Int)), (7, qj i3)] [] (F62_l4 n a0 m i3) (QB 0 (QT Try.prog D (n + 8) pc62_c29 (QF false pc62_r 0 F62_e))) := by
  intro m_l4
  induction m_l4 with
  | zero => intro i3; exact SimL.zero'  rfl
  | succ m_l4 ih_l4 =>
    intro i3
    refine SimL.succ ?_
    unfold F62_l4
    refine Sim.seq (.rg [(5, .one (vw (codI .i64) a0)), (6, qj ((a0).length : Int)), (7, qj i3)] [] (.rd 1 [(8, qb (decide (i3 < ((a0).length : Int))))] [] (.thenN (.seq (.cond (decide (i3 < ((a0).length : Int))) (by kernel_rfl) ?_ ?_)))))
    · refine Sim.skip (.thenN (.seq (.block (.seq (.region0 (.bind (og := ix a0 i3) ⟨some 9, POp.iaddrS 1 (Operand.tmp 5) (Operand.tmp 7), none, []⟩ (fun x5 => [(9, .one (.eptr ((codI .i64).enc x5) 0))]) (fun x5 => []) (by kernel_rfl) (fun x5 hr => pOp_eff (by kernel_rfl) (by kernel_rfl) (eff_idx (c := (codI .i64)) (l := a0) (k := .i64) (n := i3) (by kernel_rfl) (by kernel_rfl) (by kernel_rfl) hr)) (fun x5 => ?_)))))))
      refine SimI.rd 2 [(4, qj x5), (10, qj x5)] [] (.thenN (.seq (.st 3 [(13, qb (decide (((-1000) : Int) ≤ x5))), (12, qb (decide (((-1000) : Int) ≤ x5))), (11, qj x5)] [] (.split 13 (decide (((-1000) : Int) ≤ x5)) (by kernel_rfl) ?_ ?_))))
      · refine SimI.rd 3 [(16, qb (decide (x5 ≤ 1000))), (15, qb (decide (x5 ≤ 1000))), (14, qj x5)] [] (.thenN (.cond (decide (x5 ≤ 1000)) (by kernel_rfl) ?_ ?_))
        · refine Sim.exit (.thenX (.blockX (.thenN (.region0 (.rd 2 [(7, qj (IntKind.wrap .i64 (i3 + 1))), (17, qj (IntKind.wrap .i64 (i3 + 1)))] [] (.loopN (.pr [5, 6, 7] [] [] [(5, .one (vw (codI .i64) a0)), (6, qj ((a0).length : Int)), (7, qj (IntKind.wrap .i64 (i3 + 1)))] [] ?_)))))))
          exact ih_l4 (IntKind.wrap .i64 (i3 + 1))
        · exact Sim.skip (.thenN (.sr 1 [(2, qb false)] [] (.ret (.blockR (.thenR (.loopR (.blockR (.thenR .fn))))))))
      · exact SimI.rd 3 [(16, qb false), (15, .tup []), (14, .tup [])] [] (.thenN (.condF (by kernel_rfl) (.skip (.thenN (.sr 1 [(2, qb false)] [] (.ret (.blockR (.thenR (.loopR (.blockR (.thenR .fn)))))))))))
    · exact Sim.exit (.thenX (.loopX (.blockX (.thenN (.sr 1 [(2, qb true)] [] (.ret .fn))))))

def F62 (n : Nat) (a0 : (List Int)) : Option Bool :=
  F62_l4 n a0 (n + 8) 0
theorem F62_ok (n : Nat) (a0 : (List Int)) : ∀ r, F62 n a0 = some r → D 62 [.one (vw (codI .i64) a0)] [] = some (F62_e r) := by
  refine fn_to (D := D) (n := n + 8) (nt := 18) (rs := pc62_r) (c := pc62_c33) (L := [(0, .one (vw (codI .i64) a0))]) (M := []) (k := 0) rfl rfl rfl rfl rfl rfl rfl ?_
  unfold F62
  refine Sim.sr 1 [(2, qb false)] [] (.scope (.seq (.label (.thenN (.seq (.sr 3 [(7, qj 0), (6, qj ((a0).length : Int)), (5, .one (vw (codI .i64) a0))] [] (.block (.loop (.pr [5, 6, 7] [] [] [(5, .one (vw (codI .i64) a0)), (6, qj ((a0).length : Int)), (7, qj 0)] [] ?_)))))))))
  exact F62_l4_ok n a0 (n + 8) 0


-- 32: vedette/cmd.Is
def F32_e : Bool → PV × List Ob := fun r => (.one (lb r), [])
def F32_j12 (n : Nat) (a0 : Command) (b6 : Bool) (b8 : Bool) (b11 : Bool) : Option Bool :=
    if b6 then
      if b8 then
        if b11 then
          (F62 n [a0.At.X, a0.At.Y, a0.Rect.X0, a0.Rect.Y0, a0.Rect.X1, a0.Rect.Y1]).bind fun (r13 : Bool) =>
          some r13
        else
          some false
      else
        some false
    else
      some false
theorem F32_j12_ok (n : Nat) (a0 : Command) (b6 : Bool) (b8 : Bool) (b11 : Bool) : Sim Try.prog D (n + 8) pc32_c29 [(1, qp 1 0), (5, qb b6), (6, qb b8), (7, qb b11)] [(1, some (.cells (Command.cells a0)))] (F32_j12 n a0 b6 b8 b11) (QF false pc32_r 0 F32_e) := by
    unfold F32_j12
    refine Sim.seq (.rg [(1, qp 1 0), (5, qb b6), (6, qb b8), (7, qb b11)] [(1, some (.cells (Command.cells a0)))] (.rn 2 [(83, qb b6), (82, qb b6)] [] (.split 83 b6 (by kernel_rfl) ?_ ?_)))
    · refine SimI.rn 3 [(86, qb b8), (85, qb b8), (84, qb b8)] [] (.split 86 b8 (by kernel_rfl) ?_ ?_)
      · refine SimI.rn 3 [(89, qb b11), (88, qb b11), (87, qb b11)] [] (.split 89 b11 (by kernel_rfl) ?_ ?_)
        · refine SimI.rn 19 [(108, .one (vw (codI .i64) [a0.At.X, a0.At.Y, a0.Rect.X0, a0.Rect.Y0, a0.Rect.X1, a0.Rect.Y1])), (107, qj a0.Rect.Y1), (106, qp 1 21), (105, qp 1 18), (104, qj a0.Rect.X1), (103, qp 1 20), (102, qp 1 18), (101, qj a0.Rect.Y0), (100, qp 1 19), (99, qp 1 18), (98, qj a0.Rect.X0), (97, qp 1 18), (96, qp 1 18), (95, qj a0.At.Y), (94, qp 1 5), (93, qp 1 4), (92, qj a0.At.X), (91, qp 1 4), (90, qp 1 4)] [] (.cl 109 true [[(0, 1)]] 62 [Operand.tmp 108] (some (89, true)) (fun r13 => qb r13) [.one (vw (codI .i64) [a0.At.X, a0.At.Y, a0.Rect.X0, a0.Rect.Y0, a0.Rect.X1, a0.Rect.Y1])] (F62_ok n [a0.At.X, a0.At.Y, a0.Rect.X0, a0.Rect.Y0, a0.Rect.X1, a0.Rect.Y1]) (fun r13 => ?_))
          exact SimI.rd 2 [(2, qb r13), (110, qb r13)] [] (.thenN (.ret .fn))
        · exact SimI.rd 22 [(2, qb false), (110, qb false), (109, .tup []), (108, .tup []), (107, .tup []), (106, .tup []), (105, .tup []), (104, .tup []), (103, .tup []), (102, .tup []), (101, .tup []), (100, .tup []), (99, .tup []), (98, .tup []), (97, .tup []), (96, .tup []), (95, .tup []), (94, .tup []), (93, .tup []), (92, .tup []), (91, .tup []), (90, .tup [])] [] (.thenN (.ret .fn))
      · exact SimI.rd 25 [(2, qb false), (110, qb false), (109, .tup []), (108, .tup []), (107, .tup []), (106, .tup []), (105, .tup []), (104, .tup []), (103, .tup []), (102, .tup []), (101, .tup []), (100, .tup []), (99, .tup []), (98, .tup []), (97, .tup []), (96, .tup []), (95, .tup []), (94, .tup []), (93, .tup []), (92, .tup []), (91, .tup []), (90, .tup []), (89, qb false), (88, qb false), (87, .tup [])] [] (.thenN (.ret .fn))
    · exact SimI.rd 28 [(2, qb false), (110, qb false), (109, .tup []), (108, .tup []), (107, .tup []), (106, .tup []), (105, .tup []), (104, .tup []), (103, .tup []), (102, .tup []), (101, .tup []), (100, .tup []), (99, .tup []), (98, .tup []), (97, .tup []), (96, .tup []), (95, .tup []), (94, .tup []), (93, .tup []), (92, .tup []), (91, .tup []), (90, .tup []), (89, qb false), (88, qb false), (87, .tup []), (86, qb false), (85, qb false), (84, .tup [])] [] (.thenN (.ret .fn))

def F32_j9 (n : Nat) (a0 : Command) (b6 : Bool) (b8 : Bool) : Option Bool :=
    if decide ((0 : Int) ≤ a0.ID) then
      if decide (a0.ID ≤ 1000000) then
        if decide (((-1) : Int) ≤ a0.Which) then
          if decide (a0.Which ≤ 100) then
            if decide (((-1) : Int) ≤ a0.To) then
              if decide (a0.To ≤ 100) then
                (F60 n a0.Value).bind fun (r10 : Bool) =>
                F32_j12 n a0 b6 b8 r10
              else
                F32_j12 n a0 b6 b8 false
            else
              F32_j12 n a0 b6 b8 false
          else
            F32_j12 n a0 b6 b8 false
        else
          F32_j12 n a0 b6 b8 false
      else
        F32_j12 n a0 b6 b8 false
    else
      F32_j12 n a0 b6 b8 false
theorem F32_j9_ok (n : Nat) (a0 : Command) (b6 : Bool) (b8 : Bool) : Sim Try.prog D (n + 8) pc32_c30 [(1, qp 1 0), (5, qb b6), (6, qb b8)] [(1, some (.cells (Command.cells a0)))] (F32_j9 n a0 b6 b8) (QF false pc32_r 0 F32_e) := by
    unfold F32_j9
    refine Sim.seq (.rg [(1, qp 1 0), (5, qb b6), (6, qb b8)] [(1, some (.cells (Command.cells a0)))] (.rn 4 [(52, qb (decide ((0 : Int) ≤ a0.ID))), (51, qb (decide ((0 : Int) ≤ a0.ID))), (50, qj a0.ID), (49, qp 1 1)] [] (.split 52 (decide ((0 : Int) ≤ a0.ID)) (by kernel_rfl) ?_ ?_)))
    · refine SimI.rn 5 [(57, qb (decide (a0.ID ≤ 1000000))), (56, qb (decide (a0.ID ≤ 1000000))), (55, qb (decide (a0.ID ≤ 1000000))), (54, qj a0.ID), (53, qp 1 1)] [] (.split 57 (decide (a0.ID ≤ 1000000)) (by kernel_rfl) ?_ ?_)
      · refine SimI.rn 5 [(62, qb (decide (((-1) : Int) ≤ a0.Which))), (61, qb (decide (((-1) : Int) ≤ a0.Which))), (60, qb (decide (((-1) : Int) ≤ a0.Which))), (59, qj a0.Which), (58, qp 1 2)] [] (.split 62 (decide (((-1) : Int) ≤ a0.Which)) (by kernel_rfl) ?_ ?_)
        · refine SimI.rn 5 [(67, qb (decide (a0.Which ≤ 100))), (66, qb (decide (a0.Which ≤ 100))), (65, qb (decide (a0.Which ≤ 100))), (64, qj a0.Which), (63, qp 1 2)] [] (.split 67 (decide (a0.Which ≤ 100)) (by kernel_rfl) ?_ ?_)
          · refine SimI.rn 5 [(72, qb (decide (((-1) : Int) ≤ a0.To))), (71, qb (decide (((-1) : Int) ≤ a0.To))), (70, qb (decide (((-1) : Int) ≤ a0.To))), (69, qj a0.To), (68, qp 1 3)] [] (.split 72 (decide (((-1) : Int) ≤ a0.To)) (by kernel_rfl) ?_ ?_)
            · refine SimI.rn 5 [(77, qb (decide (a0.To ≤ 100))), (76, qb (decide (a0.To ≤ 100))), (75, qb (decide (a0.To ≤ 100))), (74, qj a0.To), (73, qp 1 3)] [] (.split 77 (decide (a0.To ≤ 100)) (by kernel_rfl) ?_ ?_)
              · refine SimI.rn 2 [(79, .agg [lj a0.Value.N, ls a0.Value.Text]), (78, qp 1 14)] [] (.cl 80 true [[]] 60 [Operand.tmp 79] (some (77, true)) (fun r10 => qb r10) [.agg [lj a0.Value.N, ls a0.Value.Text]] (F60_ok n a0.Value) (fun r10 => ?_))
                refine SimI.rd 2 [(7, qb r10), (81, qb r10)] [] (.thenN (.pr [1, 5, 6, 7] [1] [] [(1, qp 1 0), (5, qb b6), (6, qb b8), (7, qb r10)] [(1, some (.cells (Command.cells a0)))] ?_))
                exact F32_j12_ok n a0 b6 b8 r10
              · refine SimI.rd 5 [(7, qb false), (81, qb false), (80, .tup []), (79, .tup []), (78, .tup [])] [] (.thenN (.pr [1, 5, 6, 7] [1] [] [(1, qp 1 0), (5, qb b6), (6, qb b8), (7, qb false)] [(1, some (.cells (Command.cells a0)))] ?_))
                exact F32_j12_ok n a0 b6 b8 false
            · refine SimI.rd 10 [(7, qb false), (81, qb false), (80, .tup []), (79, .tup []), (78, .tup []), (77, qb false), (76, qb false), (75, .tup []), (74, .tup []), (73, .tup [])] [] (.thenN (.pr [1, 5, 6, 7] [1] [] [(1, qp 1 0), (5, qb b6), (6, qb b8), (7, qb false)] [(1, some (.cells (Command.cells a0)))] ?_))
              exact F32_j12_ok n a0 b6 b8 false
          · refine SimI.rd 15 [(7, qb false), (81, qb false), (80, .tup []), (79, .tup []), (78, .tup []), (77, qb false), (76, qb false), (75, .tup []), (74, .tup []), (73, .tup []), (72, qb false), (71, qb false), (70, .tup []), (69, .tup []), (68, .tup [])] [] (.thenN (.pr [1, 5, 6, 7] [1] [] [(1, qp 1 0), (5, qb b6), (6, qb b8), (7, qb false)] [(1, some (.cells (Command.cells a0)))] ?_))
            exact F32_j12_ok n a0 b6 b8 false
        · refine SimI.rd 20 [(7, qb false), (81, qb false), (80, .tup []), (79, .tup []), (78, .tup []), (77, qb false), (76, qb false), (75, .tup []), (74, .tup []), (73, .tup []), (72, qb false), (71, qb false), (70, .tup []), (69, .tup []), (68, .tup []), (67, qb false), (66, qb false), (65, .tup []), (64, .tup []), (63, .tup [])] [] (.thenN (.pr [1, 5, 6, 7] [1] [] [(1, qp 1 0), (5, qb b6), (6, qb b8), (7, qb false)] [(1, some (.cells (Command.cells a0)))] ?_))
          exact F32_j12_ok n a0 b6 b8 false
      · refine SimI.rd 25 [(7, qb false), (81, qb false), (80, .tup []), (79, .tup []), (78, .tup []), (77, qb false), (76, qb false), (75, .tup []), (74, .tup []), (73, .tup []), (72, qb false), (71, qb false), (70, .tup []), (69, .tup []), (68, .tup []), (67, qb false), (66, qb false), (65, .tup []), (64, .tup []), (63, .tup []), (62, qb false), (61, qb false), (60, .tup []), (59, .tup []), (58, .tup [])] [] (.thenN (.pr [1, 5, 6, 7] [1] [] [(1, qp 1 0), (5, qb b6), (6, qb b8), (7, qb false)] [(1, some (.cells (Command.cells a0)))] ?_))
        exact F32_j12_ok n a0 b6 b8 false
    · refine SimI.rd 30 [(7, qb false), (81, qb false), (80, .tup []), (79, .tup []), (78, .tup []), (77, qb false), (76, qb false), (75, .tup []), (74, .tup []), (73, .tup []), (72, qb false), (71, qb false), (70, .tup []), (69, .tup []), (68, .tup []), (67, qb false), (66, qb false), (65, .tup []), (64, .tup []), (63, .tup []), (62, qb false), (61, qb false), (60, .tup []), (59, .tup []), (58, .tup []), (57, qb false), (56, qb false), (55, .tup []), (54, .tup []), (53, .tup [])] [] (.thenN (.pr [1, 5, 6, 7] [1] [] [(1, qp 1 0), (5, qb b6), (6, qb b8), (7, qb false)] [(1, some (.cells (Command.cells a0)))] ?_))
      exact F32_j12_ok n a0 b6 b8 false

def F32_j7 (n : Nat) (a0 : Command) (b6 : Bool) : Option Bool :=
    if decide ((0 : Int) ≤ a0.Client) then
      if decide (a0.Client < 4) then
        if decide ((0 : Int) ≤ a0.Session) then
          F32_j9 n a0 b6 (decide (a0.Session ≤ 1000000))
        else
          F32_j9 n a0 b6 false
      else
        F32_j9 n a0 b6 false
    else
      F32_j9 n a0 b6 false
theorem F32_j7_ok (n : Nat) (a0 : Command) (b6 : Bool) : Sim Try.prog D (n + 8) pc32_c31 [(1, qp 1 0), (5, qb b6)] [(1, some (.cells (Command.cells a0)))] (F32_j7 n a0 b6) (QF false pc32_r 0 F32_e) := by
    unfold F32_j7
    refine Sim.seq (.rg [(1, qp 1 0), (5, qb b6)] [(1, some (.cells (Command.cells a0)))] (.rn 4 [(34, qb (decide ((0 : Int) ≤ a0.Client))), (33, qb (decide ((0 : Int) ≤ a0.Client))), (32, qj a0.Client), (31, qp 1 16)] [] (.split 34 (decide ((0 : Int) ≤ a0.Client)) (by kernel_rfl) ?_ ?_)))
    · refine SimI.rn 5 [(39, qb (decide (a0.Client < 4))), (38, qb (decide (a0.Client < 4))), (37, qb (decide (a0.Client < 4))), (36, qj a0.Client), (35, qp 1 16)] [] (.split 39 (decide (a0.Client < 4)) (by kernel_rfl) ?_ ?_)
      · refine SimI.rn 5 [(44, qb (decide ((0 : Int) ≤ a0.Session))), (43, qb (decide ((0 : Int) ≤ a0.Session))), (42, qb (decide ((0 : Int) ≤ a0.Session))), (41, qj a0.Session), (40, qp 1 17)] [] (.split 44 (decide ((0 : Int) ≤ a0.Session)) (by kernel_rfl) ?_ ?_)
        · refine SimI.rd 5 [(6, qb (decide (a0.Session ≤ 1000000))), (48, qb (decide (a0.Session ≤ 1000000))), (47, qb (decide (a0.Session ≤ 1000000))), (46, qj a0.Session), (45, qp 1 17)] [] (.thenN (.pr [1, 5, 6] [1] [] [(1, qp 1 0), (5, qb b6), (6, qb (decide (a0.Session ≤ 1000000)))] [(1, some (.cells (Command.cells a0)))] ?_))
          exact F32_j9_ok n a0 b6 (decide (a0.Session ≤ 1000000))
        · refine SimI.rd 5 [(6, qb false), (48, qb false), (47, .tup []), (46, .tup []), (45, .tup [])] [] (.thenN (.pr [1, 5, 6] [1] [] [(1, qp 1 0), (5, qb b6), (6, qb false)] [(1, some (.cells (Command.cells a0)))] ?_))
          exact F32_j9_ok n a0 b6 false
      · refine SimI.rd 10 [(6, qb false), (48, qb false), (47, .tup []), (46, .tup []), (45, .tup []), (44, qb false), (43, qb false), (42, .tup []), (41, .tup []), (40, .tup [])] [] (.thenN (.pr [1, 5, 6] [1] [] [(1, qp 1 0), (5, qb b6), (6, qb false)] [(1, some (.cells (Command.cells a0)))] ?_))
        exact F32_j9_ok n a0 b6 false
    · refine SimI.rd 15 [(6, qb false), (48, qb false), (47, .tup []), (46, .tup []), (45, .tup []), (44, qb false), (43, qb false), (42, .tup []), (41, .tup []), (40, .tup []), (39, qb false), (38, qb false), (37, .tup []), (36, .tup []), (35, .tup [])] [] (.thenN (.pr [1, 5, 6] [1] [] [(1, qp 1 0), (5, qb b6), (6, qb false)] [(1, some (.cells (Command.cells a0)))] ?_))
      exact F32_j9_ok n a0 b6 false

def F32 (n : Nat) (a0 : Command) : Option Bool :=
  (F60 n a0.F.a0).bind fun (r1 : Bool) =>
  if !(r1) then
    some false
  else
    (F60 n a0.F.a1).bind fun (r2 : Bool) =>
    if !(r2) then
      some false
    else
      (F60 n a0.F.a2).bind fun (r3 : Bool) =>
      if !(r3) then
        some false
      else
        (F60 n a0.F.a3).bind fun (r4 : Bool) =>
        if !(r4) then
          some false
        else
          if decide ((1 : Int) ≤ a0.Kind) then
            if decide (a0.Kind ≤ 8) then
              (F61 n a0).bind fun (r5 : Command) =>
              F32_j7 n a0 (Command.eqb a0 r5)
            else
              F32_j7 n a0 false
          else
            F32_j7 n a0 false
theorem F32_ok (n : Nat) (a0 : Command) : ∀ r, F32 n a0 = some r → D 32 [.agg (Command.cells a0)] [] = some (F32_e r) := by
  refine fn_to (D := D) (n := n + 8) (nt := 111) (rs := pc32_r) (c := pc32_c34) (L := [(0, .agg (Command.cells a0))]) (M := []) (k := 0) rfl rfl rfl rfl rfl rfl rfl ?_
  unfold F32
  refine Sim.sr 2 [(2, qb false), (1, qp 1 0)] [(1, some (.cells (Command.cells a0)))] (.seq (.sr 3 [(10, qj 0), (9, .agg (A4_Field.cells a0.F)), (8, qp 1 6)] [] (.block (.loop (.succ (.seq (.rg [(1, qp 1 0), (9, .agg (A4_Field.cells a0.F)), (10, qj 0)] [(1, some (.cells (Command.cells a0)))] (.rd 1 [(11, qb true)] [] (.thenN (.seq (.condT (by kernel_rfl) (.skip (.thenN (.seq (.block (.sr 3 [(4, qp 4 0), (12, .agg [lj a0.F.a0.N, ls a0.F.a0.Text])] [(4, some (.cells [lj a0.F.a0.N, ls a0.F.a0.Text])), (4, some (.cells [lj 0, ls be]))] (.st 1 [(13, .agg [lj a0.F.a0.N, ls a0.F.a0.Text])] [] (.cl 14 true [[]] 60 [Operand.tmp 13] none (fun r1 => qb r1) [.agg [lj a0.F.a0.N, ls a0.F.a0.Text]] (F60_ok n a0.F.a0) (fun r1 => ?_)))))))))))))))))))
  refine SimI.rd 1 [(15, qb (!(r1)))] [] (.thenN (.cond (!(r1)) (by kernel_rfl) ?_ ?_))
  · exact Sim.sr 1 [(2, qb false)] [] (.ret (.blockR (.thenR (.loopR (.blockR (.thenR .fn))))))
  · refine Sim.skip (.blockN (.thenN (.region0 (.rd 2 [(10, qj 1), (16, qj 1)] [] (.loopN (.succ (.seq (.rg [(1, qp 1 0), (9, .agg (A4_Field.cells a0.F)), (10, qj 1)] [(1, some (.cells (Command.cells a0)))] (.rd 1 [(11, qb true)] [] (.thenN (.seq (.condT (by kernel_rfl) (.skip (.thenN (.seq (.block (.sr 3 [(4, qp 4 0), (12, .agg [lj a0.F.a1.N, ls a0.F.a1.Text])] [(4, some (.cells [lj a0.F.a1.N, ls a0.F.a1.Text])), (4, some (.cells [lj 0, ls be]))] (.st 1 [(13, .agg [lj a0.F.a1.N, ls a0.F.a1.Text])] [] (.cl 14 true [[]] 60 [Operand.tmp 13] none (fun r2 => qb r2) [.agg [lj a0.F.a1.N, ls a0.F.a1.Text]] (F60_ok n a0.F.a1) (fun r2 => ?_))))))))))))))))))))
    refine SimI.rd 1 [(15, qb (!(r2)))] [] (.thenN (.cond (!(r2)) (by kernel_rfl) ?_ ?_))
    · exact Sim.sr 1 [(2, qb false)] [] (.ret (.blockR (.thenR (.loopR (.blockR (.thenR .fn))))))
    · refine Sim.skip (.blockN (.thenN (.region0 (.rd 2 [(10, qj 2), (16, qj 2)] [] (.loopN (.succ (.seq (.rg [(1, qp 1 0), (9, .agg (A4_Field.cells a0.F)), (10, qj 2)] [(1, some (.cells (Command.cells a0)))] (.rd 1 [(11, qb true)] [] (.thenN (.seq (.condT (by kernel_rfl) (.skip (.thenN (.seq (.block (.sr 3 [(4, qp 4 0), (12, .agg [lj a0.F.a2.N, ls a0.F.a2.Text])] [(4, some (.cells [lj a0.F.a2.N, ls a0.F.a2.Text])), (4, some (.cells [lj 0, ls be]))] (.st 1 [(13, .agg [lj a0.F.a2.N, ls a0.F.a2.Text])] [] (.cl 14 true [[]] 60 [Operand.tmp 13] none (fun r3 => qb r3) [.agg [lj a0.F.a2.N, ls a0.F.a2.Text]] (F60_ok n a0.F.a2) (fun r3 => ?_))))))))))))))))))))
      refine SimI.rd 1 [(15, qb (!(r3)))] [] (.thenN (.cond (!(r3)) (by kernel_rfl) ?_ ?_))
      · exact Sim.sr 1 [(2, qb false)] [] (.ret (.blockR (.thenR (.loopR (.blockR (.thenR .fn))))))
      · refine Sim.skip (.blockN (.thenN (.region0 (.rd 2 [(10, qj 3), (16, qj 3)] [] (.loopN (.succ (.seq (.rg [(1, qp 1 0), (9, .agg (A4_Field.cells a0.F)), (10, qj 3)] [(1, some (.cells (Command.cells a0)))] (.rd 1 [(11, qb true)] [] (.thenN (.seq (.condT (by kernel_rfl) (.skip (.thenN (.seq (.block (.sr 3 [(4, qp 4 0), (12, .agg [lj a0.F.a3.N, ls a0.F.a3.Text])] [(4, some (.cells [lj a0.F.a3.N, ls a0.F.a3.Text])), (4, some (.cells [lj 0, ls be]))] (.st 1 [(13, .agg [lj a0.F.a3.N, ls a0.F.a3.Text])] [] (.cl 14 true [[]] 60 [Operand.tmp 13] none (fun r4 => qb r4) [.agg [lj a0.F.a3.N, ls a0.F.a3.Text]] (F60_ok n a0.F.a3) (fun r4 => ?_))))))))))))))))))))
        refine SimI.rd 1 [(15, qb (!(r4)))] [] (.thenN (.cond (!(r4)) (by kernel_rfl) ?_ ?_))
        · exact Sim.sr 1 [(2, qb false)] [] (.ret (.blockR (.thenR (.loopR (.blockR (.thenR .fn))))))
        · refine Sim.skip (.blockN (.thenN (.region0 (.rd 2 [(10, qj 4), (16, qj 4)] [] (.loopN (.succ (.seq (.rg [(1, qp 1 0), (9, .agg (A4_Field.cells a0.F)), (10, qj 4)] [(1, some (.cells (Command.cells a0)))] (.rd 1 [(11, qb false)] [] (.thenN (.seq (.condF (by kernel_rfl) (.exit (.thenX (.loopX (.blockX (.thenN (.st 4 [(20, qb (decide ((1 : Int) ≤ a0.Kind))), (19, qb (decide ((1 : Int) ≤ a0.Kind))), (18, qj a0.Kind), (17, qp 1 0)] [] (.split 20 (decide ((1 : Int) ≤ a0.Kind)) (by kernel_rfl) ?_ ?_)))))))))))))))))))
          · refine SimI.rn 5 [(25, qb (decide (a0.Kind ≤ 8))), (24, qb (decide (a0.Kind ≤ 8))), (23, qb (decide (a0.Kind ≤ 8))), (22, qj a0.Kind), (21, qp 1 0)] [] (.split 25 (decide (a0.Kind ≤ 8)) (by kernel_rfl) ?_ ?_)
            · refine SimI.rn 2 [(27, .agg (Command.cells a0)), (26, .agg (Command.cells a0))] [] (.bind (og := F61 n a0) ⟨some 28, POp.call false [[]] 61 [Operand.tmp 27], some (25, true), [(27, Hint.imm)]⟩ (fun r5 => [(28, .agg (Command.cells r5))]) (fun r5 => []) (by kernel_rfl) (fun r5 hr => pOp_eff (by kernel_rfl) (by kernel_rfl) (eff_call (ARGS := [.agg (Command.cells a0)]) (by kernel_rfl) (args_clean (by kernel_rfl) args_nil) (F61_ok n a0 r5 hr) (by kernel_rfl))) (fun r5 => ?_))
              refine SimI.step ⟨some 29, POp.prim (Prim.bin BinOp.eql 53 false false) [Operand.tmp 26, Operand.tmp 28], some (25, true), [(26, Hint.imm), (28, Hint.imm)]⟩ [(29, qb (Command.eqb a0 r5))] [] (by kernel_rfl) (pOp_eff (by kernel_rfl) (by kernel_rfl) (eff_prim (by kernel_rfl) (Command_eql a0 r5 _ _))) (.rd 2 [(5, qb (Command.eqb a0 r5)), (30, qb (Command.eqb a0 r5))] [] (.thenN (.pr [1, 5] [1] [] [(1, qp 1 0), (5, qb (Command.eqb a0 r5))] [(1, some (.cells (Command.cells a0)))] ?_)))
              exact F32_j7_ok n a0 (Command.eqb a0 r5)
            · refine SimI.rd 6 [(5, qb false), (30, qb false), (29, .tup []), (28, .tup []), (27, .tup []), (26, .tup [])] [] (.thenN (.pr [1, 5] [1] [] [(1, qp 1 0), (5, qb false)] [(1, some (.cells (Command.cells a0)))] ?_))
              exact F32_j7_ok n a0 false
          · refine SimI.rd 11 [(5, qb false), (30, qb false), (29, .tup []), (28, .tup []), (27, .tup []), (26, .tup []), (25, qb false), (24, qb false), (23, .tup []), (22, .tup []), (21, .tup [])] [] (.thenN (.pr [1, 5] [1] [] [(1, qp 1 0), (5, qb false)] [(1, some (.cells (Command.cells a0)))] ?_))
            exact F32_j7_ok n a0 false


-- 33: vedette/cmd.Watches
def F33_e : Bool → PV × List Ob := fun r => (.one (lb r), [])
def F33 (n : Nat) (a0 : Command) : Option Bool :=
  if decide ((6 : Int) ≤ a0.Kind) then
    some (decide (a0.Kind ≤ 8))
  else
    some false
theorem F33_ok (n : Nat) (a0 : Command) : ∀ r, F33 n a0 = some r → D 33 [.agg (Command.cells a0)] [] = some (F33_e r) := by
  refine fn_to (D := D) (n := n + 8) (nt := 11) (rs := pc33_r) (c := pc33_c5) (L := [(0, .agg (Command.cells a0))]) (M := []) (k := 0) rfl rfl rfl rfl rfl rfl rfl ?_
  unfold F33
  refine Sim.sr 2 [(2, qb false), (1, qp 1 0)] [(1, some (.cells (Command.cells a0)))] (.st 4 [(6, qb (decide ((6 : Int) ≤ a0.Kind))), (5, qb (decide ((6 : Int) ≤ a0.Kind))), (4, qj a0.Kind), (3, qp 1 0)] [] (.split 6 (decide ((6 : Int) ≤ a0.Kind)) (by kernel_rfl) ?_ ?_))
  · exact SimI.rd 5 [(2, qb (decide (a0.Kind ≤ 8))), (10, qb (decide (a0.Kind ≤ 8))), (9, qb (decide (a0.Kind ≤ 8))), (8, qj a0.Kind), (7, qp 1 0)] [] (.thenN (.ret .fn))
  · exact SimI.rd 5 [(2, qb false), (10, qb false), (9, .tup []), (8, .tup []), (7, .tup [])] [] (.thenN (.ret .fn))


-- 31: vedette/note.Is$1
def F31_e : Bool → PV × List Ob := fun r => (.one (lb r), [])
def F31 (n : Nat) (a0 : Command) : Option Bool :=
  (F32 n a0).bind fun (r1 : Bool) =>
  if !(r1) then
    some true
  else
    (F33 n a0).bind fun (r2 : Bool) =>
    some (!(r2))
theorem F31_ok (n : Nat) (a0 : Command) : ∀ r, F31 n a0 = some r → D 31 [.agg (Command.cells a0)] [] = some (F31_e r) := by
  refine fn_to (D := D) (n := n + 8) (nt := 11) (rs := pc31_r) (c := pc31_c5) (L := [(0, .agg (Command.cells a0))]) (M := []) (k := 0) rfl rfl rfl rfl rfl rfl rfl ?_
  unfold F31
  refine Sim.sr 2 [(2, qb false), (1, qp 1 0)] [(1, some (.cells (Command.cells a0)))] (.st 1 [(3, .agg (Command.cells a0))] [] (.cl 4 true [[]] 32 [Operand.tmp 3] none (fun r1 => qb r1) [.agg (Command.cells a0)] (F32_ok n a0) (fun r1 => ?_)))
  refine SimI.rn 2 [(6, qb (!(r1))), (5, qb (!(r1)))] [] (.split 6 (!(r1)) (by kernel_rfl) ?_ ?_)
  · exact SimI.rd 5 [(2, qb true), (10, qb true), (9, .tup []), (8, .tup []), (7, .tup [])] [] (.thenN (.ret .fn))
  · refine SimI.rn 1 [(7, .agg (Command.cells a0))] [] (.cl 8 true [[]] 33 [Operand.tmp 7] (some (6, false)) (fun r2 => qb r2) [.agg (Command.cells a0)] (F33_ok n a0) (fun r2 => ?_))
    exact SimI.rd 3 [(2, qb (!(r2))), (10, qb (!(r2))), (9, qb (!(r2)))] [] (.thenN (.ret .fn))


-- 63: vedette/cells.Is
def F63_e : Bool → PV × List Ob := fun r => (.one (lb r), [])
def F63 (n : Nat) (a0 : Int) : Option Bool :=
  if decide ((0 : Int) ≤ a0) then
    some (decide (a0 < 16))
  else
    some false
theorem F63_ok (n : Nat) (a0 : Int) : ∀ r, F63 n a0 = some r → D 63 [.one (li .i64 a0)] [] = some (F63_e r) := by
  refine fn_to (D := D) (n := n + 8) (nt := 9) (rs := pc63_r) (c := pc63_c5) (L := [(0, qj a0)]) (M := []) (k := 0) rfl rfl rfl rfl rfl rfl rfl ?_
  unfold F63
  refine Sim.sr 1 [(2, qb false)] [] (.st 3 [(5, qb (decide ((0 : Int) ≤ a0))), (4, qb (decide ((0 : Int) ≤ a0))), (3, qj a0)] [] (.split 5 (decide ((0 : Int) ≤ a0)) (by kernel_rfl) ?_ ?_))
  · exact SimI.rd 4 [(2, qb (decide (a0 < 16))), (8, qb (decide (a0 < 16))), (7, qb (decide (a0 < 16))), (6, qj a0)] [] (.thenN (.ret .fn))
  · exact SimI.rd 4 [(2, qb false), (8, qb false), (7, .tup []), (6, .tup [])] [] (.thenN (.ret .fn))


-- 34: vedette/note.isHands
def F34_e : Bool → PV × List Ob := fun r => (.one (lb r), [])
def F34_l4 (n : Nat) (a0 : (List Hand)) (a1 : Int) (a2 : Int) : Nat → Int → Option Bool
  | 0, _ => none
  | m + 1, i3 =>
    if decide (i3 < ((a0).length : Int)) then
      (ix a0 i3).bind fun (x5 : Hand) =>
      (F63 n x5.Cell).bind fun (r6 : Bool) =>
      if !(r6) then
        some false
      else
        if decide ((0 : Int) < i3) then
          (ix a0 (IntKind.wrap .i64 (i3 - 1))).bind fun (x7 : Hand) =>
          if decide (x5.Cell ≤ x7.Cell) then
            some false
          else
            if decide (x5.To < 0) then
              some false
            else
              if decide (a2 ≤ x5.To) then
                some false
              else
                if x5.To == a1 then
                  some false
                else
                  (F34_l4 n a0 a1 a2 m) (IntKind.wrap .i64 (i3 + 1))
        else
          if decide (x5.To < 0) then
            some false
          else
            if decide (a2 ≤ x5.To) then
              some false
            else
              if x5.To == a1 then
                some false
              else
                (F34_l4 n a0 a1 a2 m) (IntKind.wrap .i64 (i3 + 1))
    else
      some true
theorem F34_l4_ok (n : Nat) (a0 : (List Hand)) (a1 : Int) (a2 : Int) : ∀ (m : Nat) (i3 : Int), SimL Try.prog D (n + 8) m pc34_c20 [(0, .one (vw Hand.cod a0)), (1, qj a1), (2, qj a2), (9, .one (vw Hand.cod a0)), (10, qj ((a0).length : Int)), (11, qj i3)] [] (F34_l4 n a0 a1 a2 m i3) (QB 0 (QT Try.prog D (n + 8) pc34_c26 (QF false pc34_r 0 F34_e))) := by
  intro m_l4
  induction m_l4 with
  | zero => intro i3; exact SimL.zero'  rfl
  | succ m_l4 ih_l4 =>
    intro i3
    refine SimL.succ ?_
    unfold F34_l4
    refine Sim.seq (.rg [(0, .one (vw Hand.cod a0)), (1, qj a1), (2, qj a2), (9, .one (vw Hand.cod a0)), (10, qj ((a0).length : Int)), (11, qj i3)] [] (.rd 1 [(12, qb (decide (i3 < ((a0).length : Int))))] [] (.thenN (.seq (.cond (decide (i3 < ((a0).length : Int))) (by kernel_rfl) ?_ ?_)))))
    · refine Sim.skip (.thenN (.seq (.block (.st 1 [(13, qj i3)] [] (.bind (og := ix a0 i3) ⟨some 14, POp.iaddrS 2 (Operand.tmp 9) (Operand.tmp 11), none, []⟩ (fun x5 => [(14, .one (.eptr (Hand.cod.enc x5) 0))]) (fun x5 => []) (by kernel_rfl) (fun x5 hr => pOp_eff (by kernel_rfl) (by kernel_rfl) (eff_idx (c := Hand.cod) (l := a0) (k := .i64) (n := i3) (by kernel_rfl) (by kernel_rfl) (by kernel_rfl) hr)) (fun x5 => ?_))))))
      refine SimI.rd 4 [(7, qj i3), (8, qp 8 0), (15, .agg [lj x5.Cell, lj x5.To])] [(8, some (.cells [lj x5.Cell, lj x5.To])), (8, some (.cells [lj 0, lj 0]))] (.thenN (.st 2 [(17, qj x5.Cell), (16, qp 8 0)] [] (.bind (og := F63 n x5.Cell) ⟨some 18, POp.call false [[]] 63 [Operand.tmp 17], none, [(17, Hint.imm)]⟩ (fun r6 => [(18, qb r6)]) (fun r6 => []) (by kernel_rfl) (fun r6 hr => pOp_eff (by kernel_rfl) (by kernel_rfl) (eff_call (ARGS := [qj x5.Cell]) (by kernel_rfl) (args_clean (by kernel_rfl) args_nil) (F63_ok n x5.Cell r6 hr) (by kernel_rfl))) (fun r6 => ?_))))
      refine SimI.rn 2 [(20, qb (!(r6))), (19, qb (!(r6)))] [] (.split 20 (!(r6)) (by kernel_rfl) ?_ ?_)
      · exact SimI.rd 31 [(51, qb true), (50, .tup []), (49, .tup []), (48, .tup []), (47, .tup []), (46, qb true), (45, qb true), (44, .tup []), (43, .tup []), (42, .tup []), (41, .tup []), (40, qb true), (39, qb true), (38, .tup []), (37, .tup []), (36, .tup []), (35, qb true), (34, qb true), (33, .tup []), (32, .tup []), (31, .tup []), (30, .tup []), (29, .tup []), (28, .tup []), (27, .tup []), (26, .tup []), (25, .tup []), (24, .tup []), (23, .tup []), (22, .tup []), (21, .tup [])] [] (.thenN (.condT (by kernel_rfl) (.sr 1 [(6, qb false)] [] (.ret (.blockR (.thenR (.loopR (.blockR (.thenR .fn)))))))))
      · refine SimI.rn 3 [(23, qb (decide ((0 : Int) < i3))), (22, qb (decide ((0 : Int) < i3))), (21, qj i3)] [] (.split 23 (decide ((0 : Int) < i3)) (by kernel_rfl) ?_ ?_)
        · refine SimI.rn 5 [(28, qj (IntKind.wrap .i64 (i3 - 1))), (27, qj i3), (26, .one (vw Hand.cod a0)), (25, qj x5.Cell), (24, qp 8 0)] [] (.bind (og := ix a0 (IntKind.wrap .i64 (i3 - 1))) ⟨some 29, POp.iaddrS 2 (Operand.tmp 26) (Operand.tmp 28), some (23, true), [(26, Hint.imm), (28, Hint.imm)]⟩ (fun x7 => [(29, .one (.eptr (Hand.cod.enc x7) 0))]) (fun x7 => []) (by kernel_rfl) (fun x7 hr => pOp_eff (by kernel_rfl) (by kernel_rfl) (eff_idx (c := Hand.cod) (l := a0) (k := .i64) (n := IntKind.wrap .i64 (i3 - 1)) (by kernel_rfl) (by kernel_rfl) (by kernel_rfl) hr)) (fun x7 => ?_))
          refine SimI.rn 6 [(35, qb (decide (x5.Cell ≤ x7.Cell))), (34, qb (decide (x5.Cell ≤ x7.Cell))), (33, qb (decide (x5.Cell ≤ x7.Cell))), (32, qb (decide (x5.Cell ≤ x7.Cell))), (31, qj x7.Cell), (30, .one (.eptr (Hand.cod.enc x7) 0))] [] (.split 35 (decide (x5.Cell ≤ x7.Cell)) (by kernel_rfl) ?_ ?_)
          · exact SimI.rd 16 [(51, qb true), (50, .tup []), (49, .tup []), (48, .tup []), (47, .tup []), (46, qb true), (45, qb true), (44, .tup []), (43, .tup []), (42, .tup []), (41, .tup []), (40, qb true), (39, qb true), (38, .tup []), (37, .tup []), (36, .tup [])] [] (.thenN (.condT (by kernel_rfl) (.sr 1 [(6, qb false)] [] (.ret (.blockR (.thenR (.loopR (.blockR (.thenR .fn)))))))))
          · refine SimI.rn 5 [(40, qb (decide (x5.To < 0))), (39, qb (decide (x5.To < 0))), (38, qb (decide (x5.To < 0))), (37, qj x5.To), (36, qp 8 1)] [] (.split 40 (decide (x5.To < 0)) (by kernel_rfl) ?_ ?_)
            · exact SimI.rd 11 [(51, qb true), (50, .tup []), (49, .tup []), (48, .tup []), (47, .tup []), (46, qb true), (45, qb true), (44, .tup []), (43, .tup []), (42, .tup []), (41, .tup [])] [] (.thenN (.condT (by kernel_rfl) (.sr 1 [(6, qb false)] [] (.ret (.blockR (.thenR (.loopR (.blockR (.thenR .fn)))))))))
            · refine SimI.rn 6 [(46, qb (decide (a2 ≤ x5.To))), (45, qb (decide (a2 ≤ x5.To))), (44, qb (decide (a2 ≤ x5.To))), (43, qj a2), (42, qj x5.To), (41, qp 8 1)] [] (.split 46 (decide (a2 ≤ x5.To)) (by kernel_rfl) ?_ ?_)
              · exact SimI.rd 5 [(51, qb true), (50, .tup []), (49, .tup []), (48, .tup []), (47, .tup [])] [] (.thenN (.condT (by kernel_rfl) (.sr 1 [(6, qb false)] [] (.ret (.blockR (.thenR (.loopR (.blockR (.thenR .fn)))))))))
              · refine SimI.rd 5 [(51, qb (x5.To == a1)), (50, qb (x5.To == a1)), (49, qj a1), (48, qj x5.To), (47, qp 8 1)] [] (.thenN (.cond (x5.To == a1) (by kernel_rfl) ?_ ?_))
                · exact Sim.sr 1 [(6, qb false)] [] (.ret (.blockR (.thenR (.loopR (.blockR (.thenR .fn))))))
                · refine Sim.skip (.blockN (.thenN (.region0 (.rd 2 [(11, qj (IntKind.wrap .i64 (i3 + 1))), (52, qj (IntKind.wrap .i64 (i3 + 1)))] [] (.loopN (.pr [0, 1, 2, 9, 10, 11] [8] [] [(0, .one (vw Hand.cod a0)), (1, qj a1), (2, qj a2), (9, .one (vw Hand.cod a0)), (10, qj ((a0).length : Int)), (11, qj (IntKind.wrap .i64 (i3 + 1)))] [] ?_))))))
                  exact ih_l4 (IntKind.wrap .i64 (i3 + 1))
        · refine SimI.rn 17 [(40, qb (decide (x5.To < 0))), (39, qb (decide (x5.To < 0))), (38, qb (decide (x5.To < 0))), (37, qj x5.To), (36, qp 8 1), (35, qb false), (34, qb false), (33, qb false), (32, .tup []), (31, .tup []), (30, .tup []), (29, .tup []), (28, .tup []), (27, .tup []), (26, .tup []), (25, .tup []), (24, .tup [])] [] (.split 40 (decide (x5.To < 0)) (by kernel_rfl) ?_ ?_)
          · exact SimI.rd 11 [(51, qb true), (50, .tup []), (49, .tup []), (48, .tup []), (47, .tup []), (46, qb true), (45, qb true), (44, .tup []), (43, .tup []), (42, .tup []), (41, .tup [])] [] (.thenN (.condT (by kernel_rfl) (.sr 1 [(6, qb false)] [] (.ret (.blockR (.thenR (.loopR (.blockR (.thenR .fn)))))))))
          · refine SimI.rn 6 [(46, qb (decide (a2 ≤ x5.To))), (45, qb (decide (a2 ≤ x5.To))), (44, qb (decide (a2 ≤ x5.To))), (43, qj a2), (42, qj x5.To), (41, qp 8 1)] [] (.split 46 (decide (a2 ≤ x5.To)) (by kernel_rfl) ?_ ?_)
            · exact SimI.rd 5 [(51, qb true), (50, .tup []), (49, .tup []), (48, .tup []), (47, .tup [])] [] (.thenN (.condT (by kernel_rfl) (.sr 1 [(6, qb false)] [] (.ret (.blockR (.thenR (.loopR (.blockR (.thenR .fn)))))))))
            · refine SimI.rd 5 [(51, qb (x5.To == a1)), (50, qb (x5.To == a1)), (49, qj a1), (48, qj x5.To), (47, qp 8 1)] [] (.thenN (.cond (x5.To == a1) (by kernel_rfl) ?_ ?_))
              · exact Sim.sr 1 [(6, qb false)] [] (.ret (.blockR (.thenR (.loopR (.blockR (.thenR .fn))))))
              · refine Sim.skip (.blockN (.thenN (.region0 (.rd 2 [(11, qj (IntKind.wrap .i64 (i3 + 1))), (52, qj (IntKind.wrap .i64 (i3 + 1)))] [] (.loopN (.pr [0, 1, 2, 9, 10, 11] [8] [] [(0, .one (vw Hand.cod a0)), (1, qj a1), (2, qj a2), (9, .one (vw Hand.cod a0)), (10, qj ((a0).length : Int)), (11, qj (IntKind.wrap .i64 (i3 + 1)))] [] ?_))))))
                exact ih_l4 (IntKind.wrap .i64 (i3 + 1))
    · exact Sim.exit (.thenX (.loopX (.blockX (.thenN (.sr 1 [(6, qb true)] [] (.ret .fn))))))

def F34 (n : Nat) (a0 : (List Hand)) (a1 : Int) (a2 : Int) : Option Bool :=
  F34_l4 n a0 a1 a2 (n + 8) 0
theorem F34_ok (n : Nat) (a0 : (List Hand)) (a1 : Int) (a2 : Int) : ∀ r, F34 n a0 a1 a2 = some r → D 34 [.one (vw Hand.cod a0), .one (li .i64 a1), .one (li .i64 a2)] [] = some (F34_e r) := by
  refine fn_to (D := D) (n := n + 8) (nt := 53) (rs := pc34_r) (c := pc34_c28) (L := [(0, .one (vw Hand.cod a0)), (1, qj a1), (2, qj a2)]) (M := []) (k := 0) rfl rfl rfl rfl rfl rfl rfl ?_
  unfold F34
  refine Sim.sr 1 [(6, qb false)] [] (.seq (.sr 3 [(11, qj 0), (10, qj ((a0).length : Int)), (9, .one (vw Hand.cod a0))] [] (.block (.loop (.pr [0, 1, 2, 9, 10, 11] [8] [] [(0, .one (vw Hand.cod a0)), (1, qj a1), (2, qj a2), (9, .one (vw Hand.cod a0)), (10, qj ((a0).length : Int)), (11, qj 0)] [] ?_)))))
  exact F34_l4_ok n a0 a1 a2 (n + 8) 0


-- 78: vedette/geom.On
def F78_e : Bool → PV × List Ob := fun r => (.one (lb r), [])
def F78 (n : Nat) (a0 : Point) : Option Bool :=
  if decide ((0 : Int) ≤ a0.X) then
    if decide (a0.X < 64) then
      if decide ((0 : Int) ≤ a0.Y) then
        some (decide (a0.Y < 64))
      else
        some false
    else
      some false
  else
    some false
theorem F78_ok (n : Nat) (a0 : Point) : ∀ r, F78 n a0 = some r → D 78 [.agg [li .i64 a0.X, li .i64 a0.Y]] [] = some (F78_e r) := by
  refine fn_to (D := D) (n := n + 8) (nt := 21) (rs := pc78_r) (c := pc78_c5) (L := [(0, .agg [lj a0.X, lj a0.Y])]) (M := []) (k := 0) rfl rfl rfl rfl rfl rfl rfl ?_
  unfold F78
  refine Sim.sr 2 [(2, qb false), (1, qp 1 0)] [(1, some (.cells [lj a0.X, lj a0.Y]))] (.st 4 [(6, qb (decide ((0 : Int) ≤ a0.X))), (5, qb (decide ((0 : Int) ≤ a0.X))), (4, qj a0.X), (3, qp 1 0)] [] (.split 6 (decide ((0 : Int) ≤ a0.X)) (by kernel_rfl) ?_ ?_))
  · refine SimI.rn 5 [(11, qb (decide (a0.X < 64))), (10, qb (decide (a0.X < 64))), (9, qb (decide (a0.X < 64))), (8, qj a0.X), (7, qp 1 0)] [] (.split 11 (decide (a0.X < 64)) (by kernel_rfl) ?_ ?_)
    · refine SimI.rn 5 [(16, qb (decide ((0 : Int) ≤ a0.Y))), (15, qb (decide ((0 : Int) ≤ a0.Y))), (14, qb (decide ((0 : Int) ≤ a0.Y))), (13, qj a0.Y), (12, qp 1 1)] [] (.split 16 (decide ((0 : Int) ≤ a0.Y)) (by kernel_rfl) ?_ ?_)
      · exact SimI.rd 5 [(2, qb (decide (a0.Y < 64))), (20, qb (decide (a0.Y < 64))), (19, qb (decide (a0.Y < 64))), (18, qj a0.Y), (17, qp 1 1)] [] (.thenN (.ret .fn))
      · exact SimI.rd 5 [(2, qb false), (20, qb false), (19, .tup []), (18, .tup []), (17, .tup [])] [] (.thenN (.ret .fn))
    · exact SimI.rd 10 [(2, qb false), (20, qb false), (19, .tup []), (18, .tup []), (17, .tup []), (16, qb false), (15, qb false), (14, .tup []), (13, .tup []), (12, .tup [])] [] (.thenN (.ret .fn))
  · exact SimI.rd 15 [(2, qb false), (20, qb false), (19, .tup []), (18, .tup []), (17, .tup []), (16, qb false), (15, qb false), (14, .tup []), (13, .tup []), (12, .tup []), (11, qb false), (10, qb false), (9, .tup []), (8, .tup []), (7, .tup [])] [] (.thenN (.ret .fn))


-- 94: vedette/morton.spread
def F94_e : Int → PV × List Ob := fun r => (.one (li .u32 r), [])
def F94 (n : Nat) (a0 : Int) : Option Int :=
  some (bitsI .and .u32 (bitsI .or .u32 (bitsI .and .u32 (bitsI .or .u32 (bitsI .and .u32 (bitsI .or .u32 (bitsI .and .u32 (bitsI .or .u32 a0 (shlI .u32 a0 8)) 16711935) (shlI .u32 (bitsI .and .u32 (bitsI .or .u32 a0 (shlI .u32 a0 8)) 16711935) 4)) 252645135) (shlI .u32 (bitsI .and .u32 (bitsI .or .u32 (bitsI .and .u32 (bitsI .or .u32 a0 (shlI .u32 a0 8)) 16711935) (shlI .u32 (bitsI .and .u32 (bitsI .or .u32 a0 (shlI .u32 a0 8)) 16711935) 4)) 252645135) 2)) 858993459) (shlI .u32 (bitsI .and .u32 (bitsI .or .u32 (bitsI .and .u32 (bitsI .or .u32 (bitsI .and .u32 (bitsI .or .u32 a0 (shlI .u32 a0 8)) 16711935) (shlI .u32 (bitsI .and .u32 (bitsI .or .u32 a0 (shlI .u32 a0 8)) 16711935) 4)) 252645135) (shlI .u32 (bitsI .and .u32 (bitsI .or .u32 (bitsI .and .u32 (bitsI .or .u32 a0 (shlI .u32 a0 8)) 16711935) (shlI .u32 (bitsI .and .u32 (bitsI .or .u32 a0 (shlI .u32 a0 8)) 16711935) 4)) 252645135) 2)) 858993459) 1)) 1431655765)
theorem F94_ok (n : Nat) (a0 : Int) : ∀ r, F94 n a0 = some r → D 94 [.one (li .u32 a0)] [] = some (F94_e r) := by
  refine fn_to (D := D) (n := n + 8) (nt := 24) (rs := pc94_r) (c := pc94_c22) (L := [(0, .one (li .u32 a0))]) (M := []) (k := 0) rfl rfl rfl rfl rfl rfl rfl ?_
  unfold F94
  exact Sim.sr 1 [(2, .one (li .u32 0))] [] (.seq (.sr 6 [(10, qj 0), (9, .agg [li .u64 8, li .u32 16711935, li .u64 4, li .u32 252645135, li .u64 2, li .u32 858993459, li .u64 1, li .u32 1431655765]), (8, .agg [li .u64 1, li .u32 1431655765]), (7, .agg [li .u64 2, li .u32 858993459]), (6, .agg [li .u64 4, li .u32 252645135]), (5, .agg [li .u64 8, li .u32 16711935])] [] (.block (.loop (.succ (.seq (.rg [(0, .one (li .u32 a0)), (9, .agg [li .u64 8, li .u32 16711935, li .u64 4, li .u32 252645135, li .u64 2, li .u32 858993459, li .u64 1, li .u32 1431655765]), (10, qj 0)] [] (.rd 1 [(11, qb true)] [] (.thenN (.seq (.condT (by kernel_rfl) (.skip (.thenN (.seq (.block (.sr 3 [(4, qp 4 0), (12, .agg [li .u64 8, li .u32 16711935])] [(4, some (.cells [li .u64 8, li .u32 16711935])), (4, some (.cells [li .u64 0, li .u32 0]))] (.region0 (.rd 10 [(0, .one (li .u32 (bitsI .and .u32 (bitsI .or .u32 a0 (shlI .u32 a0 8)) 16711935))), (21, .one (li .u32 (bitsI .and .u32 (bitsI .or .u32 a0 (shlI .u32 a0 8)) 16711935))), (20, .one (li .u32 16711935)), (19, qp 4 1), (18, .one (li .u32 (bitsI .or .u32 a0 (shlI .u32 a0 8)))), (17, .one (li .u32 (shlI .u32 a0 8))), (16, .one (li .u64 8)), (15, qp 4 0), (14, .one (li .u32 a0)), (13, .one (li .u32 a0))] [] (.blockN (.thenN (.region0 (.rd 2 [(10, qj 1), (22, qj 1)] [] (.loopN (.succ (.seq (.rg [(0, .one (li .u32 (bitsI .and .u32 (bitsI .or .u32 a0 (shlI .u32 a0 8)) 16711935))), (9, .agg [li .u64 8, li .u32 16711935, li .u64 4, li .u32 252645135, li .u64 2, li .u32 858993459, li .u64 1, li .u32 1431655765]), (10, qj 1)] [] (.rd 1 [(11, qb true)] [] (.thenN (.seq (.condT (by kernel_rfl) (.skip (.thenN (.seq (.block (.sr 3 [(4, qp 4 0), (12, .agg [li .u64 4, li .u32 252645135])] [(4, some (.cells [li .u64 4, li .u32 252645135])), (4, some (.cells [li .u64 0, li .u32 0]))] (.region0 (.rd 10 [(0, .one (li .u32 (bitsI .and .u32 (bitsI .or .u32 (bitsI .and .u32 (bitsI .or .u32 a0 (shlI .u32 a0 8)) 16711935) (shlI .u32 (bitsI .and .u32 (bitsI .or .u32 a0 (shlI .u32 a0 8)) 16711935) 4)) 252645135))), (21, .one (li .u32 (bitsI .and .u32 (bitsI .or .u32 (bitsI .and .u32 (bitsI .or .u32 a0 (shlI .u32 a0 8)) 16711935) (shlI .u32 (bitsI .and .u32 (bitsI .or .u32 a0 (shlI .u32 a0 8)) 16711935) 4)) 252645135))), (20, .one (li .u32 252645135)), (19, qp 4 1), (18, .one (li .u32 (bitsI .or .u32 (bitsI .and .u32 (bitsI .or .u32 a0 (shlI .u32 a0 8)) 16711935) (shlI .u32 (bitsI .and .u32 (bitsI .or .u32 a0 (shlI .u32 a0 8)) 16711935) 4)))), (17, .one (li .u32 (shlI .u32 (bitsI .and .u32 (bitsI .or .u32 a0 (shlI .u32 a0 8)) 16711935) 4))), (16, .one (li .u64 4)), (15, qp 4 0), (14, .one (li .u32 (bitsI .and .u32 (bitsI .or .u32 a0 (shlI .u32 a0 8)) 16711935))), (13, .one (li .u32 (bitsI .and .u32 (bitsI .or .u32 a0 (shlI .u32 a0 8)) 16711935)))] [] (.blockN (.thenN (.region0 (.rd 2 [(10, qj 2), (22, qj 2)] [] (.loopN (.succ (.seq (.rg [(0, .one (li .u32 (bitsI .and .u32 (bitsI .or .u32 (bitsI .and .u32 (bitsI .or .u32 a0 (shlI .u32 a0 8)) 16711935) (shlI .u32 (bitsI .and .u32 (bitsI .or .u32 a0 (shlI .u32 a0 8)) 16711935) 4)) 252645135))), (9, .agg [li .u64 8, li .u32 16711935, li .u64 4, li .u32 252645135, li .u64 2, li .u32 858993459, li .u64 1, li .u32 1431655765]), (10, qj 2)] [] (.rd 1 [(11, qb true)] [] (.thenN (.seq (.condT (by kernel_rfl) (.skip (.thenN (.seq (.block (.sr 3 [(4, qp 4 0), (12, .agg [li .u64 2, li .u32 858993459])] [(4, some (.cells [li .u64 2, li .u32 858993459])), (4, some (.cells [li .u64 0, li .u32 0]))] (.region0 (.rd 10 [(0, .one (li .u32 (bitsI .and .u32 (bitsI .or .u32 (bitsI .and .u32 (bitsI .or .u32 (bitsI .and .u32 (bitsI .or .u32 a0 (shlI .u32 a0 8)) 16711935) (shlI .u32 (bitsI .and .u32 (bitsI .or .u32 a0 (shlI .u32 a0 8)) 16711935) 4)) 252645135) (shlI .u32 (bitsI .and .u32 (bitsI .or .u32 (bitsI .and .u32 (bitsI .or .u32 a0 (shlI .u32 a0 8)) 16711935) (shlI .u32 (bitsI .and .u32 (bitsI .or .u32 a0 (shlI .u32 a0 8)) 16711935) 4)) 252645135) 2)) 858993459))), (21, .one (li .u32 (bitsI .and .u32 (bitsI .or .u32 (bitsI .and .u32 (bitsI .or .u32 (bitsI .and .u32 (bitsI .or .u32 a0 (shlI .u32 a0 8)) 16711935) (shlI .u32 (bitsI .and .u32 (bitsI .or .u32 a0 (shlI .u32 a0 8)) 16711935) 4)) 252645135) (shlI .u32 (bitsI .and .u32 (bitsI .or .u32 (bitsI .and .u32 (bitsI .or .u32 a0 (shlI .u32 a0 8)) 16711935) (shlI .u32 (bitsI .and .u32 (bitsI .or .u32 a0 (shlI .u32 a0 8)) 16711935) 4)) 252645135) 2)) 858993459))), (20, .one (li .u32 858993459)), (19, qp 4 1), (18, .one (li .u32 (bitsI .or .u32 (bitsI .and .u32 (bitsI .or .u32 (bitsI .and .u32 (bitsI .or .u32 a0 (shlI .u32 a0 8)) 16711935) (shlI .u32 (bitsI .and .u32 (bitsI .or .u32 a0 (shlI .u32 a0 8)) 16711935) 4)) 252645135) (shlI .u32 (bitsI .and .u32 (bitsI .or .u32 (bitsI .and .u32 (bitsI .or .u32 a0 (shlI .u32 a0 8)) 16711935) (shlI .u32 (bitsI .and .u32 (bitsI .or .u32 a0 (shlI .u32 a0 8)) 16711935) 4)) 252645135) 2)))), (17, .one (li .u32 (shlI .u32 (bitsI .and .u32 (bitsI .or .u32 (bitsI .and .u32 (bitsI .or .u32 a0 (shlI .u32 a0 8)) 16711935) (shlI .u32 (bitsI .and .u32 (bitsI .or .u32 a0 (shlI .u32 a0 8)) 16711935) 4)) 252645135) 2))), (16, .one (li .u64 2)), (15, qp 4 0), (14, .one (li .u32 (bitsI .and .u32 (bitsI .or .u32 (bitsI .and .u32 (bitsI .or .u32 a0 (shlI .u32 a0 8)) 16711935) (shlI .u32 (bitsI .and .u32 (bitsI .or .u32 a0 (shlI .u32 a0 8)) 16711935) 4)) 252645135))), (13, .one (li .u32 (bitsI .and .u32 (bitsI .or .u32 (bitsI .and .u32 (bitsI .or .u32 a0 (shlI .u32 a0 8)) 16711935) (shlI .u32 (bitsI .and .u32 (bitsI .or .u32 a0 (shlI .u32 a0 8)) 16711935) 4)) 252645135)))] [] (.blockN (.thenN (.region0 (.rd 2 [(10, qj 3), (22, qj 3)] [] (.loopN (.succ (.seq (.rg [(0, .one (li .u32 (bitsI .and .u32 (bitsI .or .u32 (bitsI .and .u32 (bitsI .or .u32 (bitsI .and .u32 (bitsI .or .u32 a0 (shlI .u32 a0 8)) 16711935) (shlI .u32 (bitsI .and .u32 (bitsI .or .u32 a0 (shlI .u32 a0 8)) 16711935) 4)) 252645135) (shlI .u32 (bitsI .and .u32 (bitsI .or .u32 (bitsI .and .u32 (bitsI .or .u32 a0 (shlI .u32 a0 8)) 16711935) (shlI .u32 (bitsI .and .u32 (bitsI .or .u32 a0 (shlI .u32 a0 8)) 16711935) 4)) 252645135) 2)) 858993459))), (9, .agg [li .u64 8, li .u32 16711935, li .u64 4, li .u32 252645135, li .u64 2, li .u32 858993459, li .u64 1, li .u32 1431655765]), (10, qj 3)] [] (.rd 1 [(11, qb true)] [] (.thenN (.seq (.condT (by kernel_rfl) (.skip (.thenN (.seq (.block (.sr 3 [(4, qp 4 0), (12, .agg [li .u64 1, li .u32 1431655765])] [(4, some (.cells [li .u64 1, li .u32 1431655765])), (4, some (.cells [li .u64 0, li .u32 0]))] (.region0 (.rd 10 [(0, .one (li .u32 (bitsI .and .u32 (bitsI .or .u32 (bitsI .and .u32 (bitsI .or .u32 (bitsI .and .u32 (bitsI .or .u32 (bitsI .and .u32 (bitsI .or .u32 a0 (shlI .u32 a0 8)) 16711935) (shlI .u32 (bitsI .and .u32 (bitsI .or .u32 a0 (shlI .u32 a0 8)) 16711935) 4)) 252645135) (shlI .u32 (bitsI .and .u32 (bitsI .or .u32 (bitsI .and .u32 (bitsI .or .u32 a0 (shlI .u32 a0 8)) 16711935) (shlI .u32 (bitsI .and .u32 (bitsI .or .u32 a0 (shlI .u32 a0 8)) 16711935) 4)) 252645135) 2)) 858993459) (shlI .u32 (bitsI .and .u32 (bitsI .or .u32 (bitsI .and .u32 (bitsI .or .u32 (bitsI .and .u32 (bitsI .or .u32 a0 (shlI .u32 a0 8)) 16711935) (shlI .u32 (bitsI .and .u32 (bitsI .or .u32 a0 (shlI .u32 a0 8)) 16711935) 4)) 252645135) (shlI .u32 (bitsI .and .u32 (bitsI .or .u32 (bitsI .and .u32 (bitsI .or .u32 a0 (shlI .u32 a0 8)) 16711935) (shlI .u32 (bitsI .and .u32 (bitsI .or .u32 a0 (shlI .u32 a0 8)) 16711935) 4)) 252645135) 2)) 858993459) 1)) 1431655765))), (21, .one (li .u32 (bitsI .and .u32 (bitsI .or .u32 (bitsI .and .u32 (bitsI .or .u32 (bitsI .and .u32 (bitsI .or .u32 (bitsI .and .u32 (bitsI .or .u32 a0 (shlI .u32 a0 8)) 16711935) (shlI .u32 (bitsI .and .u32 (bitsI .or .u32 a0 (shlI .u32 a0 8)) 16711935) 4)) 252645135) (shlI .u32 (bitsI .and .u32 (bitsI .or .u32 (bitsI .and .u32 (bitsI .or .u32 a0 (shlI .u32 a0 8)) 16711935) (shlI .u32 (bitsI .and .u32 (bitsI .or .u32 a0 (shlI .u32 a0 8)) 16711935) 4)) 252645135) 2)) 858993459) (shlI .u32 (bitsI .and .u32 (bitsI .or .u32 (bitsI .and .u32 (bitsI .or .u32 (bitsI .and .u32 (bitsI .or .u32 a0 (shlI .u32 a0 8)) 16711935) (shlI .u32 (bitsI .and .u32 (bitsI .or .u32 a0 (shlI .u32 a0 8)) 16711935) 4)) 252645135) (shlI .u32 (bitsI .and .u32 (bitsI .or .u32 (bitsI .and .u32 (bitsI .or .u32 a0 (shlI .u32 a0 8)) 16711935) (shlI .u32 (bitsI .and .u32 (bitsI .or .u32 a0 (shlI .u32 a0 8)) 16711935) 4)) 252645135) 2)) 858993459) 1)) 1431655765))), (20, .one (li .u32 1431655765)), (19, qp 4 1), (18, .one (li .u32 (bitsI .or .u32 (bitsI .and .u32 (bitsI .or .u32 (bitsI .and .u32 (bitsI .or .u32 (bitsI .and .u32 (bitsI .or .u32 a0 (shlI .u32 a0 8)) 16711935) (shlI .u32 (bitsI .and .u32 (bitsI .or .u32 a0 (shlI .u32 a0 8)) 16711935) 4)) 252645135) (shlI .u32 (bitsI .and .u32 (bitsI .or .u32 (bitsI .and .u32 (bitsI .or .u32 a0 (shlI .u32 a0 8)) 16711935) (shlI .u32 (bitsI .and .u32 (bitsI .or .u32 a0 (shlI .u32 a0 8)) 16711935) 4)) 252645135) 2)) 858993459) (shlI .u32 (bitsI .and .u32 (bitsI .or .u32 (bitsI .and .u32 (bitsI .or .u32 (bitsI .and .u32 (bitsI .or .u32 a0 (shlI .u32 a0 8)) 16711935) (shlI .u32 (bitsI .and .u32 (bitsI .or .u32 a0 (shlI .u32 a0 8)) 16711935) 4)) 252645135) (shlI .u32 (bitsI .and .u32 (bitsI .or .u32 (bitsI .and .u32 (bitsI .or .u32 a0 (shlI .u32 a0 8)) 16711935) (shlI .u32 (bitsI .and .u32 (bitsI .or .u32 a0 (shlI .u32 a0 8)) 16711935) 4)) 252645135) 2)) 858993459) 1)))), (17, .one (li .u32 (shlI .u32 (bitsI .and .u32 (bitsI .or .u32 (bitsI .and .u32 (bitsI .or .u32 (bitsI .and .u32 (bitsI .or .u32 a0 (shlI .u32 a0 8)) 16711935) (shlI .u32 (bitsI .and .u32 (bitsI .or .u32 a0 (shlI .u32 a0 8)) 16711935) 4)) 252645135) (shlI .u32 (bitsI .and .u32 (bitsI .or .u32 (bitsI .and .u32 (bitsI .or .u32 a0 (shlI .u32 a0 8)) 16711935) (shlI .u32 (bitsI .and .u32 (bitsI .or .u32 a0 (shlI .u32 a0 8)) 16711935) 4)) 252645135) 2)) 858993459) 1))), (16, .one (li .u64 1)), (15, qp 4 0), (14, .one (li .u32 (bitsI .and .u32 (bitsI .or .u32 (bitsI .and .u32 (bitsI .or .u32 (bitsI .and .u32 (bitsI .or .u32 a0 (shlI .u32 a0 8)) 16711935) (shlI .u32 (bitsI .and .u32 (bitsI .or .u32 a0 (shlI .u32 a0 8)) 16711935) 4)) 252645135) (shlI .u32 (bitsI .and .u32 (bitsI .or .u32 (bitsI .and .u32 (bitsI .or .u32 a0 (shlI .u32 a0 8)) 16711935) (shlI .u32 (bitsI .and .u32 (bitsI .or .u32 a0 (shlI .u32 a0 8)) 16711935) 4)) 252645135) 2)) 858993459))), (13, .one (li .u32 (bitsI .and .u32 (bitsI .or .u32 (bitsI .and .u32 (bitsI .or .u32 (bitsI .and .u32 (bitsI .or .u32 a0 (shlI .u32 a0 8)) 16711935) (shlI .u32 (bitsI .and .u32 (bitsI .or .u32 a0 (shlI .u32 a0 8)) 16711935) 4)) 252645135) (shlI .u32 (bitsI .and .u32 (bitsI .or .u32 (bitsI .and .u32 (bitsI .or .u32 a0 (shlI .u32 a0 8)) 16711935) (shlI .u32 (bitsI .and .u32 (bitsI .or .u32 a0 (shlI .u32 a0 8)) 16711935) 4)) 252645135) 2)) 858993459)))] [] (.blockN (.thenN (.region0 (.rd 2 [(10, qj 4), (22, qj 4)] [] (.loopN (.succ (.seq (.rg [(0, .one (li .u32 (bitsI .and .u32 (bitsI .or .u32 (bitsI .and .u32 (bitsI .or .u32 (bitsI .and .u32 (bitsI .or .u32 (bitsI .and .u32 (bitsI .or .u32 a0 (shlI .u32 a0 8)) 16711935) (shlI .u32 (bitsI .and .u32 (bitsI .or .u32 a0 (shlI .u32 a0 8)) 16711935) 4)) 252645135) (shlI .u32 (bitsI .and .u32 (bitsI .or .u32 (bitsI .and .u32 (bitsI .or .u32 a0 (shlI .u32 a0 8)) 16711935) (shlI .u32 (bitsI .and .u32 (bitsI .or .u32 a0 (shlI .u32 a0 8)) 16711935) 4)) 252645135) 2)) 858993459) (shlI .u32 (bitsI .and .u32 (bitsI .or .u32 (bitsI .and .u32 (bitsI .or .u32 (bitsI .and .u32 (bitsI .or .u32 a0 (shlI .u32 a0 8)) 16711935) (shlI .u32 (bitsI .and .u32 (bitsI .or .u32 a0 (shlI .u32 a0 8)) 16711935) 4)) 252645135) (shlI .u32 (bitsI .and .u32 (bitsI .or .u32 (bitsI .and .u32 (bitsI .or .u32 a0 (shlI .u32 a0 8)) 16711935) (shlI .u32 (bitsI .and .u32 (bitsI .or .u32 a0 (shlI .u32 a0 8)) 16711935) 4)) 252645135) 2)) 858993459) 1)) 1431655765))), (9, .agg [li .u64 8, li .u32 16711935, li .u64 4, li .u32 252645135, li .u64 2, li .u32 858993459, li .u64 1, li .u32 1431655765]), (10, qj 4)] [] (.rd 1 [(11, qb false)] [] (.thenN (.seq (.condF (by kernel_rfl) (.exit (.thenX (.loopX (.blockX (.thenN (.sr 2 [(2, .one (li .u32 (bitsI .and .u32 (bitsI .or .u32 (bitsI .and .u32 (bitsI .or .u32 (bitsI .and .u32 (bitsI .or .u32 (bitsI .and .u32 (bitsI .or .u32 a0 (shlI .u32 a0 8)) 16711935) (shlI .u32 (bitsI .and .u32 (bitsI .or .u32 a0 (shlI .u32 a0 8)) 16711935) 4)) 252645135) (shlI .u32 (bitsI .and .u32 (bitsI .or .u32 (bitsI .and .u32 (bitsI .or .u32 a0 (shlI .u32 a0 8)) 16711935) (shlI .u32 (bitsI .and .u32 (bitsI .or .u32 a0 (shlI .u32 a0 8)) 16711935) 4)) 252645135) 2)) 858993459) (shlI .u32 (bitsI .and .u32 (bitsI .or .u32 (bitsI .and .u32 (bitsI .or .u32 (bitsI .and .u32 (bitsI .or .u32 a0 (shlI .u32 a0 8)) 16711935) (shlI .u32 (bitsI .and .u32 (bitsI .or .u32 a0 (shlI .u32 a0 8)) 16711935) 4)) 252645135) (shlI .u32 (bitsI .and .u32 (bitsI .or .u32 (bitsI .and .u32 (bitsI .or .u32 a0 (shlI .u32 a0 8)) 16711935) (shlI .u32 (bitsI .and .u32 (bitsI .or .u32 a0 (shlI .u32 a0 8)) 16711935) 4)) 252645135) 2)) 858993459) 1)) 1431655765))), (23, .one (li .u32 (bitsI .and .u32 (bitsI .or .u32 (bitsI .and .u32 (bitsI .or .u32 (bitsI .and .u32 (bitsI .or .u32 (bitsI .and .u32 (bitsI .or .u32 a0 (shlI .u32 a0 8)) 16711935) (shlI .u32 (bitsI .and .u32 (bitsI .or .u32 a0 (shlI .u32 a0 8)) 16711935) 4)) 252645135) (shlI .u32 (bitsI .and .u32 (bitsI .or .u32 (bitsI .and .u32 (bitsI .or .u32 a0 (shlI .u32 a0 8)) 16711935) (shlI .u32 (bitsI .and .u32 (bitsI .or .u32 a0 (shlI .u32 a0 8)) 16711935) 4)) 252645135) 2)) 858993459) (shlI .u32 (bitsI .and .u32 (bitsI .or .u32 (bitsI .and .u32 (bitsI .or .u32 (bitsI .and .u32 (bitsI .or .u32 a0 (shlI .u32 a0 8)) 16711935) (shlI .u32 (bitsI .and .u32 (bitsI .or .u32 a0 (shlI .u32 a0 8)) 16711935) 4)) 252645135) (shlI .u32 (bitsI .and .u32 (bitsI .or .u32 (bitsI .and .u32 (bitsI .or .u32 a0 (shlI .u32 a0 8)) 16711935) (shlI .u32 (bitsI .and .u32 (bitsI .or .u32 a0 (shlI .u32 a0 8)) 16711935) 4)) 252645135) 2)) 858993459) 1)) 1431655765)))] [] (.ret .fn))))))))))))))))))))))))))))))))))))))))))))))))))))))))))))))))))))))))))))))))))))))))))))))


-- 90: vedette/morton.Weave
def F90_e : Int → PV × List Ob := fun r => (.one (li .u32 r), [])
def F90 (n : Nat) (a0 : Int) (a1 : Int) : Option Int :=
  (F94 n (IntKind.wrap .u32 a0)).bind fun (r1 : Int) =>
  (F94 n (IntKind.wrap .u32 a1)).bind fun (r2 : Int) =>
  some (bitsI .or .u32 r1 (shlI .u32 r2 1))
theorem F90_ok (n : Nat) (a0 : Int) (a1 : Int) : ∀ r, F90 n a0 a1 = some r → D 90 [.one (li .u16 a0), .one (li .u16 a1)] [] = some (F90_e r) := by
  refine fn_to (D := D) (n := n + 8) (nt := 13) (rs := pc90_r) (c := pc90_c5) (L := [(0, .one (li .u16 a0)), (1, .one (li .u16 a1))]) (M := []) (k := 0) rfl rfl rfl rfl rfl rfl rfl ?_
  unfold F90
  refine Sim.sr 1 [(4, .one (li .u32 0))] [] (.st 2 [(6, .one (li .u32 (IntKind.wrap .u32 a0))), (5, .one (li .u16 a0))] [] (.cl 7 true [[]] 94 [Operand.tmp 6] none (fun r1 => .one (li .u32 r1)) [.one (li .u32 (IntKind.wrap .u32 a0))] (F94_ok n (IntKind.wrap .u32 a0)) (fun r1 => ?_)))
  refine SimI.rn 2 [(9, .one (li .u32 (IntKind.wrap .u32 a1))), (8, .one (li .u16 a1))] [] (.cl 10 true [[]] 94 [Operand.tmp 9] none (fun r2 => .one (li .u32 r2)) [.one (li .u32 (IntKind.wrap .u32 a1))] (F94_ok n (IntKind.wrap .u32 a1)) (fun r2 => ?_))
  exact SimI.rd 3 [(4, .one (li .u32 (bitsI .or .u32 r1 (shlI .u32 r2 1)))), (12, .one (li .u32 (bitsI .or .u32 r1 (shlI .u32 r2 1)))), (11, .one (li .u32 (shlI .u32 r2 1)))] [] (.thenN (.ret .fn))


-- 79: vedette/cells.at
def F79_e : Int → PV × List Ob := fun r => (.one (li .i64 r), [])
def F79 (n : Nat) (a0 : Int) (a1 : Int) : Option Int :=
  (F90 n (IntKind.wrap .u16 a0) (IntKind.wrap .u16 a1)).bind fun (r1 : Int) =>
  some (IntKind.wrap .i64 r1)
theorem F79_ok (n : Nat) (a0 : Int) (a1 : Int) : ∀ r, F79 n a0 a1 = some r → D 79 [.one (li .i64 a0), .one (li .i64 a1)] [] = some (F79_e r) := by
  refine fn_to (D := D) (n := n + 8) (nt := 11) (rs := pc79_r) (c := pc79_c5) (L := [(0, qj a0), (1, qj a1)]) (M := []) (k := 0) rfl rfl rfl rfl rfl rfl rfl ?_
  unfold F79
  refine Sim.sr 1 [(4, qj 0)] [] (.st 4 [(8, .one (li .u16 (IntKind.wrap .u16 a1))), (7, qj a1), (6, .one (li .u16 (IntKind.wrap .u16 a0))), (5, qj a0)] [] (.cl 9 true [[], []] 90 [Operand.tmp 6, Operand.tmp 8] none (fun r1 => .one (li .u32 r1)) [.one (li .u16 (IntKind.wrap .u16 a0)), .one (li .u16 (IntKind.wrap .u16 a1))] (F90_ok n (IntKind.wrap .u16 a0) (IntKind.wrap .u16 a1)) (fun r1 => ?_)))
  exact SimI.rd 2 [(4, qj (IntKind.wrap .i64 r1)), (10, qj (IntKind.wrap .i64 r1))] [] (.thenN (.ret .fn))


-- 64: vedette/cells.Of
def F64_e : (Int × Int) → PV × List Ob := fun r => (.tup [.one (li .i64 r.1), .one (li .i64 r.2)], [])
def F64 (n : Nat) (a0 : Point) : Option (Int × Int) :=
  (F78 n a0).bind fun (r1 : Bool) =>
  if !(r1) then
    some (0, 14)
  else
    (F79 n (IntKind.wrap .i64 (Int.tdiv a0.X 16)) (IntKind.wrap .i64 (Int.tdiv a0.Y 16))).bind fun (r2 : Int) =>
    some (r2, 0)
theorem F64_ok (n : Nat) (a0 : Point) : ∀ r, F64 n a0 = some r → D 64 [.agg [li .i64 a0.X, li .i64 a0.Y]] [] = some (F64_e r) := by
  refine fn_to (D := D) (n := n + 8) (nt := 14) (rs := pc64_r) (c := pc64_c13) (L := [(0, .agg [lj a0.X, lj a0.Y])]) (M := []) (k := 0) rfl rfl rfl rfl rfl rfl rfl ?_
  unfold F64
  refine Sim.sr 3 [(3, qj 0), (2, qj 0), (1, qp 1 0)] [(1, some (.cells [lj a0.X, lj a0.Y]))] (.seq (.st 1 [(4, .agg [lj a0.X, lj a0.Y])] [] (.cl 5 true [[]] 78 [Operand.tmp 4] none (fun r1 => qb r1) [.agg [lj a0.X, lj a0.Y]] (F78_ok n a0) (fun r1 => ?_))))
  refine SimI.rd 1 [(6, qb (!(r1)))] [] (.thenN (.cond (!(r1)) (by kernel_rfl) ?_ ?_))
  · exact Sim.sr 2 [(3, qj 14), (2, qj 0)] [] (.ret (.thenR .fn))
  · refine Sim.skip (.thenN (.st 6 [(12, qj (IntKind.wrap .i64 (Int.tdiv a0.Y 16))), (11, qj a0.Y), (10, qp 1 1), (9, qj (IntKind.wrap .i64 (Int.tdiv a0.X 16))), (8, qj a0.X), (7, qp 1 0)] [] (.cl 13 true [[], []] 79 [Operand.tmp 9, Operand.tmp 12] none (fun r2 => qj r2) [qj (IntKind.wrap .i64 (Int.tdiv a0.X 16)), qj (IntKind.wrap .i64 (Int.tdiv a0.Y 16))] (F79_ok n (IntKind.wrap .i64 (Int.tdiv a0.X 16)) (IntKind.wrap .i64 (Int.tdiv a0.Y 16))) (fun r2 => ?_))))
    exact SimI.rd 2 [(3, qj 0), (2, qj r2)] [] (.thenN (.ret .fn))


-- 66: vedette/note.isThings$1
def F66s0_e (a0 : Hand) (a1 : Int) : Bool → PV × List Ob := fun r => (.one (lb r), [.cells [li .i64 a1]])
def F66s0 (n : Nat) (a0 : Hand) (a1 : Int) : Option Bool :=
  some (a0.Cell == a1)
theorem F66s0_ok (n : Nat) (a0 : Hand) (a1 : Int) : ∀ r, F66s0 n a0 a1 = some r → D 66 [.agg [li .i64 a0.Cell, li .i64 a0.To], .one (.ptr 1000000 0)] [.cells [li .i64 a1]] = some ((F66s0_e a0 a1) r) := by
  refine fn_to (D := D) (n := n + 8) (nt := 8) (rs := pc66_r) (c := pc66_c5) (L := [(0, .agg [lj a0.Cell, lj a0.To]), (1, qp 1000000 0)]) (M := [(1000000, some (.cells [lj a1]))]) (k := 1) rfl rfl rfl rfl rfl rfl rfl ?_
  unfold F66s0
  exact Sim.sr 2 [(3, qb false), (2, qp 2 0)] [(2, some (.cells [lj a0.Cell, lj a0.To]))] (.sr 5 [(3, qb (a0.Cell == a1)), (7, qb (a0.Cell == a1)), (6, qj a1), (5, qj a0.Cell), (4, qp 2 0)] [] (.ret .fn))


-- 80: slices.IndexFunc[[]vedette/api.Hand,vedette/api.Hand]
def F80s0_e (a0 : (List Hand)) (a1 : Int) : Int → PV × List Ob := fun r => (.one (li .i64 r), [.cells [li .i64 a1]])
def F80s0_l4 (n : Nat) (a0 : (List Hand)) (a1 : Int) : Nat → Int → Option Int
  | 0, _ => none
  | m + 1, i3 =>
    if decide (i3 < ((a0).length : Int)) then
      (ix a0 i3).bind fun (x5 : Hand) =>
      (F66s0 n x5 a1).bind fun (r6 : Bool) =>
      if r6 then
        some i3
      else
        (F80s0_l4 n a0 a1 m) (IntKind.wrap .i64 (i3 + 1))
    else
      some (-1)
theorem F80s0_l4_ok (n : Nat) (a0 : (List Hand)) (a1 : Int) : ∀ (m : Nat) (i3 : Int), SimL Try.prog D (n + 8) m pc80_c20 [(0, .one (vw Hand.cod a0)), (1, .one (.fn 66 [.ptr 1000000 0])), (7, qj ((a0).length : Int)), (8, qj i3)] [(1000000, some (.cells [lj a1]))] (F80s0_l4 n a0 a1 m i3) (QB 0 (QT Try.prog D (n + 8) pc80_c26 (QF false pc80_r 1 (F80s0_e a0 a1)))) := by
  intro m_l4
  induction m_l4 with
  | zero => intro i3; exact SimL.zero'  rfl
  | succ m_l4 ih_l4 =>
    intro i3
    refine SimL.succ ?_
    unfold F80s0_l4
    refine Sim.seq (.rg [(0, .one (vw Hand.cod a0)), (1, .one (.fn 66 [.ptr 1000000 0])), (7, qj ((a0).length : Int)), (8, qj i3)] [(1000000, some (.cells [lj a1]))] (.rd 1 [(9, qb (decide (i3 < ((a0).length : Int))))] [] (.thenN (.seq (.cond (decide (i3 < ((a0).length : Int))) (by kernel_rfl) ?_ ?_)))))
    · refine Sim.skip (.thenN (.seq (.block (.sr 2 [(5, qj i3), (10, qj i3)] [] (.st 3 [(13, qj i3), (12, .one (vw Hand.cod a0)), (11, .one (.fn 66 [.ptr 1000000 0]))] [] (.bind (og := ix a0 i3) ⟨some 14, POp.iaddrS 2 (Operand.tmp 12) (Operand.tmp 13), none, []⟩ (fun x5 => [(14, .one (.eptr (Hand.cod.enc x5) 0))]) (fun x5 => []) (by kernel_rfl) (fun x5 hr => pOp_eff (by kernel_rfl) (by kernel_rfl) (eff_idx (c := Hand.cod) (l := a0) (k := .i64) (n := i3) (by kernel_rfl) (by kernel_rfl) (by kernel_rfl) hr)) (fun x5 => ?_)))))))
      refine SimI.rn 1 [(15, .agg [lj x5.Cell, lj x5.To])] [] (.bind (og := F66s0 n x5 a1) ⟨some 16, POp.gcallv false false [300000, 300001, 300002, 300003, 300004, 300005, 300006, 300007, 1000000] [[]] (Operand.tmp 11) [Operand.tmp 15], none, []⟩ (fun r6 => [(16, qb r6)]) (fun r6 => [(1000000, some (.cells [lj a1]))]) (by kernel_rfl) (fun r6 hr => pOp_eff (by kernel_rfl) (by kernel_rfl) (eff_gcallv (ks := [1000000]) (rks := []) (new := []) (ARGS := [.agg [lj x5.Cell, lj x5.To], qp 1000000 0]) (args1 := [.agg [lj x5.Cell, lj x5.To], qp 1000000 0]) (args2 := [.agg [lj x5.Cell, lj x5.To], qp 1000000 0]) (os := [.cells [lj a1]]) (os' := [.cells [lj a1]]) (os1 := [.cells [lj a1]]) (res := qb r6) (res1 := qb r6) (r := qb r6) (N := [(1000000, some (.cells [lj a1]))]) (caps := [.ptr 1000000 0]) (by kernel_rfl) (by kernel_rfl) (readA_ow (readA_agg (by kernel_rfl) (readA_keep (by kernel_rfl) (readA_nil)))) (by kernel_rfl) (by kernel_rfl) (by kernel_rfl) (by kernel_rfl) (F66s0_ok n x5 a1 r6 hr) (by kernel_rfl) (by kernel_rfl) (by kernel_rfl) rfl (by kernel_rfl) (by kernel_rfl) (by kernel_rfl))) (fun r6 => ?_))
      refine SimI.dn (.thenN (.cond r6 (by kernel_rfl) ?_ ?_))
      · exact Sim.sr 2 [(4, qj i3), (17, qj i3)] [] (.ret (.blockR (.thenR (.loopR (.blockR (.thenR .fn))))))
      · refine Sim.skip (.blockN (.thenN (.region0 (.rd 2 [(8, qj (IntKind.wrap .i64 (i3 + 1))), (18, qj (IntKind.wrap .i64 (i3 + 1)))] [] (.loopN (.pr [0, 1, 7, 8] [1000000] [] [(0, .one (vw Hand.cod a0)), (1, .one (.fn 66 [.ptr 1000000 0])), (7, qj ((a0).length : Int)), (8, qj (IntKind.wrap .i64 (i3 + 1)))] [(1000000, some (.cells [lj a1]))] ?_))))))
        exact ih_l4 (IntKind.wrap .i64 (i3 + 1))
    · exact Sim.exit (.thenX (.loopX (.blockX (.thenN (.sr 1 [(4, qj (-1))] [] (.ret .fn))))))

def F80s0 (n : Nat) (a0 : (List Hand)) (a1 : Int) : Option Int :=
  F80s0_l4 n a0 a1 (n + 8) 0
theorem F80s0_ok (n : Nat) (a0 : (List Hand)) (a1 : Int) : ∀ r, F80s0 n a0 a1 = some r → D 80 [.one (vw Hand.cod a0), .one (.fn 66 [.ptr 1000000 0])] [.cells [li .i64 a1]] = some ((F80s0_e a0 a1) r) := by
  refine fn_to (D := D) (n := n + 8) (nt := 19) (rs := pc80_r) (c := pc80_c28) (L := [(0, .one (vw Hand.cod a0)), (1, .one (.fn 66 [.ptr 1000000 0]))]) (M := [(1000000, some (.cells [lj a1]))]) (k := 1) rfl rfl rfl rfl rfl rfl rfl ?_
  unfold F80s0
  refine Sim.sr 1 [(4, qj 0)] [] (.seq (.sr 3 [(8, qj 0), (7, qj ((a0).length : Int)), (6, .one (vw Hand.cod a0))] [] (.block (.loop (.pr [0, 1, 7, 8] [1000000] [] [(0, .one (vw Hand.cod a0)), (1, .one (.fn 66 [.ptr 1000000 0])), (7, qj ((a0).length : Int)), (8, qj 0)] [(1000000, some (.cells [lj a1]))] ?_)))))
  exact F80s0_l4_ok n a0 a1 (n + 8) 0


-- 65: slices.ContainsFunc[[]vedette/api.Hand,vedette/api.Hand]
def F65s0_e (a0 : (List Hand)) (a1 : Int) : Bool → PV × List Ob := fun r => (.one (lb r), [.cells [li .i64 a1]])
def F65s0 (n : Nat) (a0 : (List Hand)) (a1 : Int) : Option Bool :=
  (F80s0 n a0 a1).bind fun (r1 : Int) =>
  some (decide ((0 : Int) ≤ r1))
theorem F65s0_ok (n : Nat) (a0 : (List Hand)) (a1 : Int) : ∀ r, F65s0 n a0 a1 = some r → D 65 [.one (vw Hand.cod a0), .one (.fn 66 [.ptr 1000000 0])] [.cells [li .i64 a1]] = some ((F65s0_e a0 a1) r) := by
  refine fn_to (D := D) (n := n + 8) (nt := 9) (rs := pc65_r) (c := pc65_c5) (L := [(0, .one (vw Hand.cod a0)), (1, .one (.fn 66 [.ptr 1000000 0]))]) (M := [(1000000, some (.cells [lj a1]))]) (k := 1) rfl rfl rfl rfl rfl rfl rfl ?_
  unfold F65s0
  refine Sim.sr 1 [(4, qb false)] [] (.st 2 [(6, .one (.fn 66 [.ptr 1000000 0])), (5, .one (vw Hand.cod a0))] [] (.bind (og := F80s0 n a0 a1) ⟨some 7, POp.gcall false false [300000, 300001, 300002, 300003, 300004, 300005, 300006, 300007, 1000000] [[(0, 2)], []] 80 [Operand.tmp 5, Operand.tmp 6], none, []⟩ (fun r1 => [(7, qj r1)]) (fun r1 => [(1000000, some (.cells [lj a1]))]) (by kernel_rfl) (fun r1 hr => pOp_eff (by kernel_rfl) (by kernel_rfl) (eff_gcall (ks := [1000000]) (rks := []) (new := []) (ARGS := [.one (vw Hand.cod a0), .one (.fn 66 [.ptr 1000000 0])]) (args1 := [.one (vw Hand.cod a0), .one (.fn 66 [.ptr 1000000 0])]) (args2 := [.one (vw Hand.cod a0), .one (.fn 66 [.ptr 1000000 0])]) (os := [.cells [lj a1]]) (os' := [.cells [lj a1]]) (os1 := [.cells [lj a1]]) (res := qj r1) (res1 := qj r1) (r := qj r1) (N := [(1000000, some (.cells [lj a1]))]) (by kernel_rfl) (readA_ow (readA_keep (by kernel_rfl) (readA_keep (by kernel_rfl) (readA_nil)))) (by kernel_rfl) (by kernel_rfl) (by kernel_rfl) (by kernel_rfl) (F80s0_ok n a0 a1 r1 hr) (by kernel_rfl) (by kernel_rfl) (by kernel_rfl) rfl (by kernel_rfl) (by kernel_rfl) (by kernel_rfl))) (fun r1 => ?_)))
  exact SimI.rd 2 [(4, qb (decide ((0 : Int) ≤ r1))), (8, qb (decide ((0 : Int) ≤ r1)))] [] (.thenN (.ret .fn))


-- 82: vedette/thing.Is$1
def F82_e : Bool → PV × List Ob := fun r => (.one (lb r), [])
def F82 (n : Nat) (a0 : Field) : Option Bool :=
  (F60 n a0).bind fun (r1 : Bool) =>
  some (!(r1))
theorem F82_ok (n : Nat) (a0 : Field) : ∀ r, F82 n a0 = some r → D 82 [.agg [li .i64 a0.N, ls a0.Text]] [] = some (F82_e r) := by
  refine fn_to (D := D) (n := n + 8) (nt := 6) (rs := pc82_r) (c := pc82_c5) (L := [(0, .agg [lj a0.N, ls a0.Text])]) (M := []) (k := 0) rfl rfl rfl rfl rfl rfl rfl ?_
  unfold F82
  refine Sim.sr 2 [(2, qb false), (1, qp 1 0)] [(1, some (.cells [lj a0.N, ls a0.Text]))] (.st 1 [(3, .agg [lj a0.N, ls a0.Text])] [] (.cl 4 true [[]] 60 [Operand.tmp 3] none (fun r1 => qb r1) [.agg [lj a0.N, ls a0.Text]] (F60_ok n a0) (fun r1 => ?_)))
  exact SimI.rd 2 [(2, qb (!(r1))), (5, qb (!(r1)))] [] (.thenN (.ret .fn))


-- 91: slices.IndexFunc[[]vedette/api.Field,vedette/api.Field]
def F91s0_e (a0 : (List Field)) : Int → PV × List Ob := fun r => (.one (li .i64 r), [])
def F91s0_l4 (n : Nat) (a0 : (List Field)) : Nat → Int → Option Int
  | 0, _ => none
  | m + 1, i3 =>
    if decide (i3 < ((a0).length : Int)) then
      (ix a0 i3).bind fun (x5 : Field) =>
      (F82 n x5).bind fun (r6 : Bool) =>
      if r6 then
        some i3
      else
        (F91s0_l4 n a0 m) (IntKind.wrap .i64 (i3 + 1))
    else
      some (-1)
theorem F91s0_l4_ok (n : Nat) (a0 : (List Field)) : ∀ (m : Nat) (i3 : Int), SimL Try.prog D (n + 8) m pc91_c20 [(0, .one (vw Field.cod a0)), (1, .one (.val (.func (.func 82) #[] #[]))), (7, qj ((a0).length : Int)), (8, qj i3)] [] (F91s0_l4 n a0 m i3) (QB 0 (QT Try.prog D (n + 8) pc91_c26 (QF false pc91_r 0 (F91s0_e a0)))) := by
  intro m_l4
  induction m_l4 with
  | zero => intro i3; exact SimL.zero'  rfl
  | succ m_l4 ih_l4 =>
    intro i3
    refine SimL.succ ?_
    unfold F91s0_l4
    refine Sim.seq (.rg [(0, .one (vw Field.cod a0)), (1, .one (.val (.func (.func 82) #[] #[]))), (7, qj ((a0).length : Int)), (8, qj i3)] [] (.rd 1 [(9, qb (decide (i3 < ((a0).length : Int))))] [] (.thenN (.seq (.cond (decide (i3 < ((a0).length : Int))) (by kernel_rfl) ?_ ?_)))))
    · refine Sim.skip (.thenN (.seq (.block (.sr 2 [(5, qj i3), (10, qj i3)] [] (.st 3 [(13, qj i3), (12, .one (vw Field.cod a0)), (11, .one (.val (.func (.func 82) #[] #[])))] [] (.bind (og := ix a0 i3) ⟨some 14, POp.iaddrS 2 (Operand.tmp 12) (Operand.tmp 13), none, []⟩ (fun x5 => [(14, .one (.eptr (Field.cod.enc x5) 0))]) (fun x5 => []) (by kernel_rfl) (fun x5 hr => pOp_eff (by kernel_rfl) (by kernel_rfl) (eff_idx (c := Field.cod) (l := a0) (k := .i64) (n := i3) (by kernel_rfl) (by kernel_rfl) (by kernel_rfl) hr)) (fun x5 => ?_)))))))
      refine SimI.rn 1 [(15, .agg [lj x5.N, ls x5.Text])] [] (.bind (og := F82 n x5) ⟨some 16, POp.callv true [[]] (Operand.tmp 11) [Operand.tmp 15], none, []⟩ (fun r6 => [(16, qb r6)]) (fun r6 => []) (by kernel_rfl) (fun r6 hr => pOp_eff (by kernel_rfl) (by kernel_rfl) (eff_callvv (by kernel_rfl) (ARGS := [.agg [lj x5.N, ls x5.Text]]) (by kernel_rfl) (args_clean (by kernel_rfl) args_nil) (F82_ok n x5 r6 hr) (by kernel_rfl))) (fun r6 => ?_))
      refine SimI.dn (.thenN (.cond r6 (by kernel_rfl) ?_ ?_))
      · exact Sim.sr 2 [(4, qj i3), (17, qj i3)] [] (.ret (.blockR (.thenR (.loopR (.blockR (.thenR .fn))))))
      · refine Sim.skip (.blockN (.thenN (.region0 (.rd 2 [(8, qj (IntKind.wrap .i64 (i3 + 1))), (18, qj (IntKind.wrap .i64 (i3 + 1)))] [] (.loopN (.pr [0, 1, 7, 8] [] [] [(0, .one (vw Field.cod a0)), (1, .one (.val (.func (.func 82) #[] #[]))), (7, qj ((a0).length : Int)), (8, qj (IntKind.wrap .i64 (i3 + 1)))] [] ?_))))))
        exact ih_l4 (IntKind.wrap .i64 (i3 + 1))
    · exact Sim.exit (.thenX (.loopX (.blockX (.thenN (.sr 1 [(4, qj (-1))] [] (.ret .fn))))))

def F91s0 (n : Nat) (a0 : (List Field)) : Option Int :=
  F91s0_l4 n a0 (n + 8) 0
theorem F91s0_ok (n : Nat) (a0 : (List Field)) : ∀ r, F91s0 n a0 = some r → D 91 [.one (vw Field.cod a0), .one (.val (.func (.func 82) #[] #[]))] [] = some ((F91s0_e a0) r) := by
  refine fn_to (D := D) (n := n + 8) (nt := 19) (rs := pc91_r) (c := pc91_c28) (L := [(0, .one (vw Field.cod a0)), (1, .one (.val (.func (.func 82) #[] #[])))]) (M := []) (k := 0) rfl rfl rfl rfl rfl rfl rfl ?_
  unfold F91s0
  refine Sim.sr 1 [(4, qj 0)] [] (.seq (.sr 3 [(8, qj 0), (7, qj ((a0).length : Int)), (6, .one (vw Field.cod a0))] [] (.block (.loop (.pr [0, 1, 7, 8] [] [] [(0, .one (vw Field.cod a0)), (1, .one (.val (.func (.func 82) #[] #[]))), (7, qj ((a0).length : Int)), (8, qj 0)] [] ?_)))))
  exact F91s0_l4_ok n a0 (n + 8) 0


-- 81: slices.ContainsFunc[[]vedette/api.Field,vedette/api.Field]
def F81s0_e (a0 : (List Field)) : Bool → PV × List Ob := fun r => (.one (lb r), [])
def F81s0 (n : Nat) (a0 : (List Field)) : Option Bool :=
  (F91s0 n a0).bind fun (r1 : Int) =>
  some (decide ((0 : Int) ≤ r1))
theorem F81s0_ok (n : Nat) (a0 : (List Field)) : ∀ r, F81s0 n a0 = some r → D 81 [.one (vw Field.cod a0), .one (.val (.func (.func 82) #[] #[]))] [] = some ((F81s0_e a0) r) := by
  refine fn_to (D := D) (n := n + 8) (nt := 9) (rs := pc81_r) (c := pc81_c5) (L := [(0, .one (vw Field.cod a0)), (1, .one (.val (.func (.func 82) #[] #[])))]) (M := []) (k := 0) rfl rfl rfl rfl rfl rfl rfl ?_
  unfold F81s0
  refine Sim.sr 1 [(4, qb false)] [] (.st 2 [(6, .one (.val (.func (.func 82) #[] #[]))), (5, .one (vw Field.cod a0))] [] (.bind (og := F91s0 n a0) ⟨some 7, POp.gcall false false [300000, 300001, 300002, 300003, 300004, 300005, 300006, 300007] [[(0, 2)], []] 91 [Operand.tmp 5, Operand.tmp 6], none, []⟩ (fun r1 => [(7, qj r1)]) (fun r1 => []) (by kernel_rfl) (fun r1 hr => pOp_eff (by kernel_rfl) (by kernel_rfl) (eff_gcall (ks := []) (rks := []) (new := []) (ARGS := [.one (vw Field.cod a0), .one (.val (.func (.func 82) #[] #[]))]) (args1 := [.one (vw Field.cod a0), .one (.val (.func (.func 82) #[] #[]))]) (args2 := [.one (vw Field.cod a0), .one (.val (.func (.func 82) #[] #[]))]) (os := []) (os' := []) (os1 := []) (res := qj r1) (res1 := qj r1) (r := qj r1) (N := []) (by kernel_rfl) (readA_ow (readA_keep (by kernel_rfl) (readA_keep (by kernel_rfl) (readA_nil)))) (by kernel_rfl) (by kernel_rfl) (by kernel_rfl) (by kernel_rfl) (F91s0_ok n a0 r1 hr) (by kernel_rfl) (by kernel_rfl) (by kernel_rfl) rfl (by kernel_rfl) (by kernel_rfl) (by kernel_rfl))) (fun r1 => ?_)))
  exact SimI.rd 2 [(4, qb (decide ((0 : Int) ≤ r1))), (8, qb (decide ((0 : Int) ≤ r1)))] [] (.thenN (.ret .fn))


-- 67: vedette/thing.Is
def F67_e : Bool → PV × List Ob := fun r => (.one (lb r), [])
def F67 (n : Nat) (a0 : Thing) : Option Bool :=
  if decide ((0 : Int) ≤ a0.ID) then
    if decide (a0.ID ≤ 1000000) then
      (F78 n a0.At).bind fun (r1 : Bool) =>
      if r1 then
        (F81s0 n [a0.F.a0, a0.F.a1, a0.F.a2, a0.F.a3]).bind fun (r2 : Bool) =>
        some (!(r2))
      else
        some false
    else
      some false
  else
    some false
theorem F67_ok (n : Nat) (a0 : Thing) : ∀ r, F67 n a0 = some r → D 67 [.agg (Thing.cells a0)] [] = some (F67_e r) := by
  refine fn_to (D := D) (n := n + 8) (nt := 22) (rs := pc67_r) (c := pc67_c5) (L := [(0, .agg (Thing.cells a0))]) (M := []) (k := 0) rfl rfl rfl rfl rfl rfl rfl ?_
  unfold F67
  refine Sim.sr 2 [(2, qb false), (1, qp 1 0)] [(1, some (.cells (Thing.cells a0)))] (.st 4 [(6, qb (decide ((0 : Int) ≤ a0.ID))), (5, qb (decide ((0 : Int) ≤ a0.ID))), (4, qj a0.ID), (3, qp 1 0)] [] (.split 6 (decide ((0 : Int) ≤ a0.ID)) (by kernel_rfl) ?_ ?_))
  · refine SimI.rn 5 [(11, qb (decide (a0.ID ≤ 1000000))), (10, qb (decide (a0.ID ≤ 1000000))), (9, qb (decide (a0.ID ≤ 1000000))), (8, qj a0.ID), (7, qp 1 0)] [] (.split 11 (decide (a0.ID ≤ 1000000)) (by kernel_rfl) ?_ ?_)
    · refine SimI.rn 2 [(13, .agg [lj a0.At.X, lj a0.At.Y]), (12, qp 1 1)] [] (.cl 14 true [[]] 78 [Operand.tmp 13] (some (11, true)) (fun r1 => qb r1) [.agg [lj a0.At.X, lj a0.At.Y]] (F78_ok n a0.At) (fun r1 => ?_))
      refine SimI.rn 2 [(16, qb r1), (15, qb r1)] [] (.split 16 r1 (by kernel_rfl) ?_ ?_)
      · refine SimI.rn 2 [(18, .one (.csl 1 2 3 4)), (17, qp 1 3)] [] (.bind (og := F81s0 n [a0.F.a0, a0.F.a1, a0.F.a2, a0.F.a3]) ⟨some 19, POp.gcall false false [1, 300000, 300001, 300002, 300003, 300004, 300005, 300006, 300007] [[(0, 2)], []] 81 [Operand.tmp 18, Operand.func 82], some (16, true), []⟩ (fun r2 => [(19, qb r2)]) (fun r2 => []) (by kernel_rfl) (fun r2 hr => pOp_eff (by kernel_rfl) (by kernel_rfl) (eff_gcall (ks := []) (rks := [1]) (new := []) (ARGS := [.one (.csl 1 2 3 4), .one (.val (.func (.func 82) #[] #[]))]) (args1 := [.one (vw Field.cod [a0.F.a0, a0.F.a1, a0.F.a2, a0.F.a3]), .one (.val (.func (.func 82) #[] #[]))]) (args2 := [.one (vw Field.cod [a0.F.a0, a0.F.a1, a0.F.a2, a0.F.a3]), .one (.val (.func (.func 82) #[] #[]))]) (os := []) (os' := []) (os1 := []) (res := qb r2) (res1 := qb r2) (r := qb r2) (N := []) (by kernel_rfl) (readA_ow (readA_csl (c := Field.cod) (k := 1) (off := 3) (cs := (Thing.cells a0)) (l := [a0.F.a0, a0.F.a1, a0.F.a2, a0.F.a3]) (by kernel_rfl) (by kernel_rfl) (by kernel_rfl) (by kernel_rfl) (readA_keep (by kernel_rfl) (readA_nil)))) (by kernel_rfl) (by kernel_rfl) (by kernel_rfl) (by kernel_rfl) (F81s0_ok n [a0.F.a0, a0.F.a1, a0.F.a2, a0.F.a3] r2 hr) (by kernel_rfl) (by kernel_rfl) (by kernel_rfl) rfl (by kernel_rfl) (by kernel_rfl) (by kernel_rfl))) (fun r2 => ?_))
        exact SimI.rd 3 [(2, qb (!(r2))), (21, qb (!(r2))), (20, qb (!(r2)))] [] (.thenN (.ret .fn))
      · exact SimI.rd 6 [(2, qb false), (21, qb false), (20, .tup []), (19, .tup []), (18, .tup []), (17, .tup [])] [] (.thenN (.ret .fn))
    · exact SimI.rd 11 [(2, qb false), (21, qb false), (20, .tup []), (19, .tup []), (18, .tup []), (17, .tup []), (16, qb false), (15, qb false), (14, .tup []), (13, .tup []), (12, .tup [])] [] (.thenN (.ret .fn))
  · exact SimI.rd 16 [(2, qb false), (21, qb false), (20, .tup []), (19, .tup []), (18, .tup []), (17, .tup []), (16, qb false), (15, qb false), (14, .tup []), (13, .tup []), (12, .tup []), (11, qb false), (10, qb false), (9, .tup []), (8, .tup []), (7, .tup [])] [] (.thenN (.ret .fn))


-- 35: vedette/note.isThings
def F35_e : Bool → PV × List Ob := fun r => (.one (lb r), [])
def F35_l4 (n : Nat) (a0 : (List Thing)) (a1 : (List Hand)) (a2 : Bool) : Nat → Int → Option Bool
  | 0, _ => none
  | m + 1, i3 =>
    if decide (i3 < ((a0).length : Int)) then
      (ix a0 i3).bind fun (x5 : Thing) =>
      (F64 n x5.At).bind fun (r6 : (Int × Int)) =>
      (F65s0 n a1 r6.1).bind fun (r7 : Bool) =>
      (F67 n x5).bind fun (r8 : Bool) =>
      if !(r8) then
        some false
      else
        if decide ((0 : Int) < i3) then
          (ix a0 (IntKind.wrap .i64 (i3 - 1))).bind fun (x9 : Thing) =>
          if decide (x5.ID ≤ x9.ID) then
            some false
          else
            if !(r7 == a2) then
              some false
            else
              (F35_l4 n a0 a1 a2 m) (IntKind.wrap .i64 (i3 + 1))
        else
          if !(r7 == a2) then
            some false
          else
            (F35_l4 n a0 a1 a2 m) (IntKind.wrap .i64 (i3 + 1))
    else
      some (decide (((a0).length : Int) ≤ 200))
theorem F35_l4_ok (n : Nat) (a0 : (List Thing)) (a1 : (List Hand)) (a2 : Bool) : ∀ (m : Nat) (i3 : Int), SimL Try.prog D (n + 8) m pc35_c24 [(0, .one (vw Thing.cod a0)), (1, .one (vw Hand.cod a1)), (2, qb a2), (12, .one (vw Thing.cod a0)), (13, qj ((a0).length : Int)), (14, qj i3)] [] (F35_l4 n a0 a1 a2 m i3) (QB 0 (QT Try.prog D (n + 8) pc35_c30 (QF false pc35_r 0 F35_e))) := by
  intro m_l4
  induction m_l4 with
  | zero => intro i3; exact SimL.zero'  rfl
  | succ m_l4 ih_l4 =>
    intro i3
    refine SimL.succ ?_
    unfold F35_l4
    refine Sim.seq (.rg [(0, .one (vw Thing.cod a0)), (1, .one (vw Hand.cod a1)), (2, qb a2), (12, .one (vw Thing.cod a0)), (13, qj ((a0).length : Int)), (14, qj i3)] [] (.rd 1 [(15, qb (decide (i3 < ((a0).length : Int))))] [] (.thenN (.seq (.cond (decide (i3 < ((a0).length : Int))) (by kernel_rfl) ?_ ?_)))))
    · refine Sim.skip (.thenN (.seq (.block (.st 1 [(16, qj i3)] [] (.bind (og := ix a0 i3) ⟨some 17, POp.iaddrS 11 (Operand.tmp 12) (Operand.tmp 14), none, []⟩ (fun x5 => [(17, .one (.eptr (Thing.cod.enc x5) 0))]) (fun x5 => []) (by kernel_rfl) (fun x5 hr => pOp_eff (by kernel_rfl) (by kernel_rfl) (eff_idx (c := Thing.cod) (l := a0) (k := .i64) (n := i3) (by kernel_rfl) (by kernel_rfl) (by kernel_rfl) hr)) (fun x5 => ?_))))))
      refine SimI.rd 4 [(7, qj i3), (8, qp 8 0), (18, .agg (Thing.cells x5))] [(8, some (.cells (Thing.cells x5))), (8, some (.cells [lj 0, lj 0, lj 0, lj 0, ls be, lj 0, ls be, lj 0, ls be, lj 0, ls be]))] (.thenN (.st 2 [(21, .agg [lj x5.At.X, lj x5.At.Y]), (20, qp 8 1)] [] (.cl 22 true [[]] 64 [Operand.tmp 21] none (fun r6 => .tup [qj r6.1, qj r6.2]) [.agg [lj x5.At.X, lj x5.At.Y]] (F64_ok n x5.At) (fun r6 => ?_))))
      refine SimI.rd 6 [(10, qj r6.2), (9, qp 9 0), (24, qj r6.2), (23, qj r6.1), (19, .tup [qj r6.1, qj r6.2])] [(9, some (.cells [lj r6.1])), (9, some (.cells [lj 0]))] (.thenN (.st 2 [(26, .one (.fn 66 [.ptr 9 0])), (25, .one (vw Hand.cod a1))] [] (.bind (og := F65s0 n a1 r6.1) ⟨some 27, POp.gcall false false [9, 300000, 300001, 300002, 300003, 300004, 300005, 300006, 300007] [[(0, 2)], []] 65 [Operand.tmp 25, Operand.tmp 26], none, []⟩ (fun r7 => [(27, qb r7)]) (fun r7 => [(9, some (.cells [lj r6.1]))]) (by kernel_rfl) (fun r7 hr => pOp_eff (by kernel_rfl) (by kernel_rfl) (eff_gcall (ks := [9]) (rks := []) (new := []) (ARGS := [.one (vw Hand.cod a1), .one (.fn 66 [.ptr 9 0])]) (args1 := [.one (vw Hand.cod a1), .one (.fn 66 [.ptr 9 0])]) (args2 := [.one (vw Hand.cod a1), .one (.fn 66 [.ptr 1000000 0])]) (os := [.cells [lj r6.1]]) (os' := [.cells [lj r6.1]]) (os1 := [.cells [lj r6.1]]) (res := qb r7) (res1 := qb r7) (r := qb r7) (N := [(9, some (.cells [lj r6.1]))]) (by kernel_rfl) (readA_ow (readA_keep (by kernel_rfl) (readA_keep (by kernel_rfl) (readA_nil)))) (by kernel_rfl) (by kernel_rfl) (by kernel_rfl) (by kernel_rfl) (F65s0_ok n a1 r6.1 r7 hr) (by kernel_rfl) (by kernel_rfl) (by kernel_rfl) rfl (by kernel_rfl) (by kernel_rfl) (by kernel_rfl))) (fun r7 => ?_))))
      refine SimI.rd 1 [(11, qb r7)] [] (.thenN (.st 1 [(28, .agg (Thing.cells x5))] [] (.bind (og := F67 n x5) ⟨some 29, POp.call false [[]] 67 [Operand.tmp 28], none, [(28, Hint.imm)]⟩ (fun r8 => [(29, qb r8)]) (fun r8 => []) (by kernel_rfl) (fun r8 hr => pOp_eff (by kernel_rfl) (by kernel_rfl) (eff_call (ARGS := [.agg (Thing.cells x5)]) (by kernel_rfl) (args_clean (by kernel_rfl) args_nil) (F67_ok n x5 r8 hr) (by kernel_rfl))) (fun r8 => ?_))))
      refine SimI.rn 2 [(31, qb (!(r8))), (30, qb (!(r8)))] [] (.split 31 (!(r8)) (by kernel_rfl) ?_ ?_)
      · exact SimI.rd 19 [(50, qb true), (49, .tup []), (48, .tup []), (47, .tup []), (46, qb true), (45, qb true), (44, .tup []), (43, .tup []), (42, .tup []), (41, .tup []), (40, .tup []), (39, .tup []), (38, .tup []), (37, .tup []), (36, .tup []), (35, .tup []), (34, .tup []), (33, .tup []), (32, .tup [])] [] (.thenN (.condT (by kernel_rfl) (.sr 1 [(6, qb false)] [] (.ret (.blockR (.thenR (.loopR (.blockR (.thenR .fn)))))))))
      · refine SimI.rn 3 [(34, qb (decide ((0 : Int) < i3))), (33, qb (decide ((0 : Int) < i3))), (32, qj i3)] [] (.split 34 (decide ((0 : Int) < i3)) (by kernel_rfl) ?_ ?_)
        · refine SimI.rn 5 [(39, qj (IntKind.wrap .i64 (i3 - 1))), (38, qj i3), (37, .one (vw Thing.cod a0)), (36, qj x5.ID), (35, qp 8 0)] [] (.bind (og := ix a0 (IntKind.wrap .i64 (i3 - 1))) ⟨some 40, POp.iaddrS 11 (Operand.tmp 37) (Operand.tmp 39), some (34, true), [(37, Hint.imm), (39, Hint.imm)]⟩ (fun x9 => [(40, .one (.eptr (Thing.cod.enc x9) 0))]) (fun x9 => []) (by kernel_rfl) (fun x9 hr => pOp_eff (by kernel_rfl) (by kernel_rfl) (eff_idx (c := Thing.cod) (l := a0) (k := .i64) (n := IntKind.wrap .i64 (i3 - 1)) (by kernel_rfl) (by kernel_rfl) (by kernel_rfl) hr)) (fun x9 => ?_))
          refine SimI.rn 6 [(46, qb (decide (x5.ID ≤ x9.ID))), (45, qb (decide (x5.ID ≤ x9.ID))), (44, qb (decide (x5.ID ≤ x9.ID))), (43, qb (decide (x5.ID ≤ x9.ID))), (42, qj x9.ID), (41, .one (.eptr (Thing.cod.enc x9) 0))] [] (.split 46 (decide (x5.ID ≤ x9.ID)) (by kernel_rfl) ?_ ?_)
          · exact SimI.rd 4 [(50, qb true), (49, .tup []), (48, .tup []), (47, .tup [])] [] (.thenN (.condT (by kernel_rfl) (.sr 1 [(6, qb false)] [] (.ret (.blockR (.thenR (.loopR (.blockR (.thenR .fn)))))))))
          · refine SimI.rd 4 [(50, qb (!(r7 == a2))), (49, qb (!(r7 == a2))), (48, qb a2), (47, qb r7)] [] (.thenN (.cond (!(r7 == a2)) (by kernel_rfl) ?_ ?_))
            · exact Sim.sr 1 [(6, qb false)] [] (.ret (.blockR (.thenR (.loopR (.blockR (.thenR .fn))))))
            · refine Sim.skip (.blockN (.thenN (.region0 (.rd 2 [(14, qj (IntKind.wrap .i64 (i3 + 1))), (51, qj (IntKind.wrap .i64 (i3 + 1)))] [] (.loopN (.pr [0, 1, 2, 12, 13, 14] [8, 9] [] [(0, .one (vw Thing.cod a0)), (1, .one (vw Hand.cod a1)), (2, qb a2), (12, .one (vw Thing.cod a0)), (13, qj ((a0).length : Int)), (14, qj (IntKind.wrap .i64 (i3 + 1)))] [] ?_))))))
              exact ih_l4 (IntKind.wrap .i64 (i3 + 1))
        · refine SimI.rd 16 [(50, qb (!(r7 == a2))), (49, qb (!(r7 == a2))), (48, qb a2), (47, qb r7), (46, qb false), (45, qb false), (44, qb false), (43, .tup []), (42, .tup []), (41, .tup []), (40, .tup []), (39, .tup []), (38, .tup []), (37, .tup []), (36, .tup []), (35, .tup [])] [] (.thenN (.cond (!(r7 == a2)) (by kernel_rfl) ?_ ?_))
          · exact Sim.sr 1 [(6, qb false)] [] (.ret (.blockR (.thenR (.loopR (.blockR (.thenR .fn))))))
          · refine Sim.skip (.blockN (.thenN (.region0 (.rd 2 [(14, qj (IntKind.wrap .i64 (i3 + 1))), (51, qj (IntKind.wrap .i64 (i3 + 1)))] [] (.loopN (.pr [0, 1, 2, 12, 13, 14] [8, 9] [] [(0, .one (vw Thing.cod a0)), (1, .one (vw Hand.cod a1)), (2, qb a2), (12, .one (vw Thing.cod a0)), (13, qj ((a0).length : Int)), (14, qj (IntKind.wrap .i64 (i3 + 1)))] [] ?_))))))
            exact ih_l4 (IntKind.wrap .i64 (i3 + 1))
    · exact Sim.exit (.thenX (.loopX (.blockX (.thenN (.sr 4 [(6, qb (decide (((a0).length : Int) ≤ 200))), (54, qb (decide (((a0).length : Int) ≤ 200))), (53, qj ((a0).length : Int)), (52, .one (vw Thing.cod a0))] [] (.ret .fn))))))

def F35 (n : Nat) (a0 : (List Thing)) (a1 : (List Hand)) (a2 : Bool) : Option Bool :=
  F35_l4 n a0 a1 a2 (n + 8) 0
theorem F35_ok (n : Nat) (a0 : (List Thing)) (a1 : (List Hand)) (a2 : Bool) : ∀ r, F35 n a0 a1 a2 = some r → D 35 [.one (vw Thing.cod a0), .one (vw Hand.cod a1), .one (lb a2)] [] = some (F35_e r) := by
  refine fn_to (D := D) (n := n + 8) (nt := 55) (rs := pc35_r) (c := pc35_c32) (L := [(0, .one (vw Thing.cod a0)), (1, .one (vw Hand.cod a1)), (2, qb a2)]) (M := []) (k := 0) rfl rfl rfl rfl rfl rfl rfl ?_
  unfold F35
  refine Sim.sr 1 [(6, qb false)] [] (.seq (.sr 3 [(14, qj 0), (13, qj ((a0).length : Int)), (12, .one (vw Thing.cod a0))] [] (.block (.loop (.pr [0, 1, 2, 12, 13, 14] [8, 9] [] [(0, .one (vw Thing.cod a0)), (1, .one (vw Hand.cod a1)), (2, qb a2), (12, .one (vw Thing.cod a0)), (13, qj ((a0).length : Int)), (14, qj 0)] [] ?_)))))
  exact F35_l4_ok n a0 a1 a2 (n + 8) 0


-- 68: slices.IndexFunc[[]vedette/api.Command,vedette/api.Command]
def F68s0_e (a0 : (List Command)) : Int → PV × List Ob := fun r => (.one (li .i64 r), [])
def F68s0_l4 (n : Nat) (a0 : (List Command)) : Nat → Int → Option Int
  | 0, _ => none
  | m + 1, i3 =>
    if decide (i3 < ((a0).length : Int)) then
      (ix a0 i3).bind fun (x5 : Command) =>
      (F31 n x5).bind fun (r6 : Bool) =>
      if r6 then
        some i3
      else
        (F68s0_l4 n a0 m) (IntKind.wrap .i64 (i3 + 1))
    else
      some (-1)
theorem F68s0_l4_ok (n : Nat) (a0 : (List Command)) : ∀ (m : Nat) (i3 : Int), SimL Try.prog D (n + 8) m pc68_c20 [(0, .one (vw Command.cod a0)), (1, .one (.val (.func (.func 31) #[] #[]))), (7, qj ((a0).length : Int)), (8, qj i3)] [] (F68s0_l4 n a0 m i3) (QB 0 (QT Try.prog D (n + 8) pc68_c26 (QF false pc68_r 0 (F68s0_e a0)))) := by
  intro m_l4
  induction m_l4 with
  | zero => intro i3; exact SimL.zero'  rfl
  | succ m_l4 ih_l4 =>
    intro i3
    refine SimL.succ ?_
    unfold F68s0_l4
    refine Sim.seq (.rg [(0, .one (vw Command.cod a0)), (1, .one (.val (.func (.func 31) #[] #[]))), (7, qj ((a0).length : Int)), (8, qj i3)] [] (.rd 1 [(9, qb (decide (i3 < ((a0).length : Int))))] [] (.thenN (.seq (.cond (decide (i3 < ((a0).length : Int))) (by kernel_rfl) ?_ ?_)))))
    · refine Sim.skip (.thenN (.seq (.block (.sr 2 [(5, qj i3), (10, qj i3)] [] (.st 3 [(13, qj i3), (12, .one (vw Command.cod a0)), (11, .one (.val (.func (.func 31) #[] #[])))] [] (.bind (og := ix a0 i3) ⟨some 14, POp.iaddrS 22 (Operand.tmp 12) (Operand.tmp 13), none, []⟩ (fun x5 => [(14, .one (.eptr (Command.cod.enc x5) 0))]) (fun x5 => []) (by kernel_rfl) (fun x5 hr => pOp_eff (by kernel_rfl) (by kernel_rfl) (eff_idx (c := Command.cod) (l := a0) (k := .i64) (n := i3) (by kernel_rfl) (by kernel_rfl) (by kernel_rfl) hr)) (fun x5 => ?_)))))))
      refine SimI.rn 1 [(15, .agg (Command.cells x5))] [] (.bind (og := F31 n x5) ⟨some 16, POp.callv true [[]] (Operand.tmp 11) [Operand.tmp 15], none, []⟩ (fun r6 => [(16, qb r6)]) (fun r6 => []) (by kernel_rfl) (fun r6 hr => pOp_eff (by kernel_rfl) (by kernel_rfl) (eff_callvv (by kernel_rfl) (ARGS := [.agg (Command.cells x5)]) (by kernel_rfl) (args_clean (by kernel_rfl) args_nil) (F31_ok n x5 r6 hr) (by kernel_rfl))) (fun r6 => ?_))
      refine SimI.dn (.thenN (.cond r6 (by kernel_rfl) ?_ ?_))
      · exact Sim.sr 2 [(4, qj i3), (17, qj i3)] [] (.ret (.blockR (.thenR (.loopR (.blockR (.thenR .fn))))))
      · refine Sim.skip (.blockN (.thenN (.region0 (.rd 2 [(8, qj (IntKind.wrap .i64 (i3 + 1))), (18, qj (IntKind.wrap .i64 (i3 + 1)))] [] (.loopN (.pr [0, 1, 7, 8] [] [] [(0, .one (vw Command.cod a0)), (1, .one (.val (.func (.func 31) #[] #[]))), (7, qj ((a0).length : Int)), (8, qj (IntKind.wrap .i64 (i3 + 1)))] [] ?_))))))
        exact ih_l4 (IntKind.wrap .i64 (i3 + 1))
    · exact Sim.exit (.thenX (.loopX (.blockX (.thenN (.sr 1 [(4, qj (-1))] [] (.ret .fn))))))

def F68s0 (n : Nat) (a0 : (List Command)) : Option Int :=
  F68s0_l4 n a0 (n + 8) 0
theorem F68s0_ok (n : Nat) (a0 : (List Command)) : ∀ r, F68s0 n a0 = some r → D 68 [.one (vw Command.cod a0), .one (.val (.func (.func 31) #[] #[]))] [] = some ((F68s0_e a0) r) := by
  refine fn_to (D := D) (n := n + 8) (nt := 19) (rs := pc68_r) (c := pc68_c28) (L := [(0, .one (vw Command.cod a0)), (1, .one (.val (.func (.func 31) #[] #[])))]) (M := []) (k := 0) rfl rfl rfl rfl rfl rfl rfl ?_
  unfold F68s0
  refine Sim.sr 1 [(4, qj 0)] [] (.seq (.sr 3 [(8, qj 0), (7, qj ((a0).length : Int)), (6, .one (vw Command.cod a0))] [] (.block (.loop (.pr [0, 1, 7, 8] [] [] [(0, .one (vw Command.cod a0)), (1, .one (.val (.func (.func 31) #[] #[]))), (7, qj ((a0).length : Int)), (8, qj 0)] [] ?_)))))
  exact F68s0_l4_ok n a0 (n + 8) 0


-- 36: slices.ContainsFunc[[]vedette/api.Command,vedette/api.Command]
def F36s0_e (a0 : (List Command)) : Bool → PV × List Ob := fun r => (.one (lb r), [])
def F36s0 (n : Nat) (a0 : (List Command)) : Option Bool :=
  (F68s0 n a0).bind fun (r1 : Int) =>
  some (decide ((0 : Int) ≤ r1))
theorem F36s0_ok (n : Nat) (a0 : (List Command)) : ∀ r, F36s0 n a0 = some r → D 36 [.one (vw Command.cod a0), .one (.val (.func (.func 31) #[] #[]))] [] = some ((F36s0_e a0) r) := by
  refine fn_to (D := D) (n := n + 8) (nt := 9) (rs := pc36_r) (c := pc36_c5) (L := [(0, .one (vw Command.cod a0)), (1, .one (.val (.func (.func 31) #[] #[])))]) (M := []) (k := 0) rfl rfl rfl rfl rfl rfl rfl ?_
  unfold F36s0
  refine Sim.sr 1 [(4, qb false)] [] (.st 2 [(6, .one (.val (.func (.func 31) #[] #[]))), (5, .one (vw Command.cod a0))] [] (.bind (og := F68s0 n a0) ⟨some 7, POp.gcall false false [300000, 300001, 300002, 300003, 300004, 300005, 300006, 300007] [[(0, 22)], []] 68 [Operand.tmp 5, Operand.tmp 6], none, []⟩ (fun r1 => [(7, qj r1)]) (fun r1 => []) (by kernel_rfl) (fun r1 hr => pOp_eff (by kernel_rfl) (by kernel_rfl) (eff_gcall (ks := []) (rks := []) (new := []) (ARGS := [.one (vw Command.cod a0), .one (.val (.func (.func 31) #[] #[]))]) (args1 := [.one (vw Command.cod a0), .one (.val (.func (.func 31) #[] #[]))]) (args2 := [.one (vw Command.cod a0), .one (.val (.func (.func 31) #[] #[]))]) (os := []) (os' := []) (os1 := []) (res := qj r1) (res1 := qj r1) (r := qj r1) (N := []) (by kernel_rfl) (readA_ow (readA_keep (by kernel_rfl) (readA_keep (by kernel_rfl) (readA_nil)))) (by kernel_rfl) (by kernel_rfl) (by kernel_rfl) (by kernel_rfl) (F68s0_ok n a0 r1 hr) (by kernel_rfl) (by kernel_rfl) (by kernel_rfl) rfl (by kernel_rfl) (by kernel_rfl) (by kernel_rfl))) (fun r1 => ?_)))
  exact SimI.rd 2 [(4, qb (decide ((0 : Int) ≤ r1))), (8, qb (decide ((0 : Int) ≤ r1)))] [] (.thenN (.ret .fn))


-- 11: vedette/note.Is
def F11_e : Bool → PV × List Ob := fun r => (.one (lb r), [])
def F11 (n : Nat) (a0 : Note) (a1 : Int) : Option Bool :=
  if decide (a0.From < 0) then
    some false
  else
    if decide (imin a1 4 ≤ a0.From) then
      some false
    else
      if decide (a0.Beat < 0) then
        some false
      else
        if decide ((1073741824 : Int) < a0.Beat) then
          some false
        else
          if decide ((20 : Int) < ((a0.Watch).length : Int)) then
            some false
          else
            (F34 n a0.Hands a0.From (imin a1 4)).bind fun (r1 : Bool) =>
            if r1 then
              (F35 n a0.Moved a0.Hands false).bind fun (r2 : Bool) =>
              if r2 then
                (F35 n a0.Given a0.Hands true).bind fun (r3 : Bool) =>
                if r3 then
                  (F36s0 n a0.Watch).bind fun (r4 : Bool) =>
                  some (!(r4))
                else
                  some false
              else
                some false
            else
              some false
theorem F11_ok (n : Nat) (a0 : Note) (a1 : Int) : ∀ r, F11 n a0 a1 = some r → D 11 [.agg [li .i64 a0.From, li .i64 a0.Beat, vw Thing.cod a0.Moved, vw Hand.cod a0.Hands, vw Thing.cod a0.Given, vw Command.cod a0.Watch], .one (li .i64 a1)] [] = some (F11_e r) := by
  refine fn_to (D := D) (n := n + 8) (nt := 60) (rs := pc11_r) (c := pc11_c17) (L := [(0, .agg [lj a0.From, lj a0.Beat, vw Thing.cod a0.Moved, vw Hand.cod a0.Hands, vw Thing.cod a0.Given, vw Command.cod a0.Watch]), (1, qj a1)]) (M := []) (k := 0) rfl rfl rfl rfl rfl rfl rfl ?_
  unfold F11
  refine Sim.sr 2 [(4, qb false), (2, qp 2 0)] [(2, some (.cells [lj a0.From, lj a0.Beat, vw Thing.cod a0.Moved, vw Hand.cod a0.Hands, vw Thing.cod a0.Given, vw Command.cod a0.Watch]))] (.sr 3 [(1, qj (imin a1 4)), (7, qj (imin a1 4)), (6, qj a1)] [] (.seq (.st 4 [(11, qb (decide (a0.From < 0))), (10, qb (decide (a0.From < 0))), (9, qj a0.From), (8, qp 2 0)] [] (.split 11 (decide (a0.From < 0)) (by kernel_rfl) ?_ ?_))))
  · exact SimI.rd 21 [(32, qb true), (31, .tup []), (30, .tup []), (29, .tup []), (28, .tup []), (27, qb true), (26, qb true), (25, .tup []), (24, .tup []), (23, .tup []), (22, qb true), (21, qb true), (20, .tup []), (19, .tup []), (18, .tup []), (17, qb true), (16, qb true), (15, .tup []), (14, .tup []), (13, .tup []), (12, .tup [])] [] (.thenN (.condT (by kernel_rfl) (.sr 1 [(4, qb false)] [] (.ret (.thenR .fn)))))
  · refine SimI.rn 6 [(17, qb (decide (imin a1 4 ≤ a0.From))), (16, qb (decide (imin a1 4 ≤ a0.From))), (15, qb (decide (imin a1 4 ≤ a0.From))), (14, qj (imin a1 4)), (13, qj a0.From), (12, qp 2 0)] [] (.split 17 (decide (imin a1 4 ≤ a0.From)) (by kernel_rfl) ?_ ?_)
    · exact SimI.rd 15 [(32, qb true), (31, .tup []), (30, .tup []), (29, .tup []), (28, .tup []), (27, qb true), (26, qb true), (25, .tup []), (24, .tup []), (23, .tup []), (22, qb true), (21, qb true), (20, .tup []), (19, .tup []), (18, .tup [])] [] (.thenN (.condT (by kernel_rfl) (.sr 1 [(4, qb false)] [] (.ret (.thenR .fn)))))
    · refine SimI.rn 5 [(22, qb (decide (a0.Beat < 0))), (21, qb (decide (a0.Beat < 0))), (20, qb (decide (a0.Beat < 0))), (19, qj a0.Beat), (18, qp 2 1)] [] (.split 22 (decide (a0.Beat < 0)) (by kernel_rfl) ?_ ?_)
      · exact SimI.rd 10 [(32, qb true), (31, .tup []), (30, .tup []), (29, .tup []), (28, .tup []), (27, qb true), (26, qb true), (25, .tup []), (24, .tup []), (23, .tup [])] [] (.thenN (.condT (by kernel_rfl) (.sr 1 [(4, qb false)] [] (.ret (.thenR .fn)))))
      · refine SimI.rn 5 [(27, qb (decide ((1073741824 : Int) < a0.Beat))), (26, qb (decide ((1073741824 : Int) < a0.Beat))), (25, qb (decide ((1073741824 : Int) < a0.Beat))), (24, qj a0.Beat), (23, qp 2 1)] [] (.split 27 (decide ((1073741824 : Int) < a0.Beat)) (by kernel_rfl) ?_ ?_)
        · exact SimI.rd 5 [(32, qb true), (31, .tup []), (30, .tup []), (29, .tup []), (28, .tup [])] [] (.thenN (.condT (by kernel_rfl) (.sr 1 [(4, qb false)] [] (.ret (.thenR .fn)))))
        · refine SimI.rd 5 [(32, qb (decide ((20 : Int) < ((a0.Watch).length : Int)))), (31, qb (decide ((20 : Int) < ((a0.Watch).length : Int)))), (30, qj ((a0.Watch).length : Int)), (29, .one (vw Command.cod a0.Watch)), (28, qp 2 5)] [] (.thenN (.cond (decide ((20 : Int) < ((a0.Watch).length : Int))) (by kernel_rfl) ?_ ?_))
          · exact Sim.sr 1 [(4, qb false)] [] (.ret (.thenR .fn))
          · refine Sim.skip (.thenN (.sr 1 [(5, .one (.val (.func (.func 31) #[] #[])))] [] (.st 5 [(37, qj (imin a1 4)), (36, qj a0.From), (35, qp 2 0), (34, .one (vw Hand.cod a0.Hands)), (33, qp 2 3)] [] (.cl 38 true [[(0, 2)], [], []] 34 [Operand.tmp 34, Operand.tmp 36, Operand.tmp 37] none (fun r1 => qb r1) [.one (vw Hand.cod a0.Hands), qj a0.From, qj (imin a1 4)] (F34_ok n a0.Hands a0.From (imin a1 4)) (fun r1 => ?_)))))
            refine SimI.rn 1 [(39, qb r1)] [] (.split 39 r1 (by kernel_rfl) ?_ ?_)
            · refine SimI.rn 4 [(43, .one (vw Hand.cod a0.Hands)), (42, qp 2 3), (41, .one (vw Thing.cod a0.Moved)), (40, qp 2 2)] [] (.cl 44 true [[(0, 11)], [(0, 2)], []] 35 [Operand.tmp 41, Operand.tmp 43, Operand.const (Value.bool false)] (some (39, true)) (fun r2 => qb r2) [.one (vw Thing.cod a0.Moved), .one (vw Hand.cod a0.Hands), qb false] (F35_ok n a0.Moved a0.Hands false) (fun r2 => ?_))
              refine SimI.rn 2 [(46, qb r2), (45, qb r2)] [] (.split 46 r2 (by kernel_rfl) ?_ ?_)
              · refine SimI.rn 4 [(50, .one (vw Hand.cod a0.Hands)), (49, qp 2 3), (48, .one (vw Thing.cod a0.Given)), (47, qp 2 4)] [] (.cl 51 true [[(0, 11)], [(0, 2)], []] 35 [Operand.tmp 48, Operand.tmp 50, Operand.const (Value.bool true)] (some (46, true)) (fun r3 => qb r3) [.one (vw Thing.cod a0.Given), .one (vw Hand.cod a0.Hands), qb true] (F35_ok n a0.Given a0.Hands true) (fun r3 => ?_))
                refine SimI.rn 2 [(53, qb r3), (52, qb r3)] [] (.split 53 r3 (by kernel_rfl) ?_ ?_)
                · refine SimI.rn 3 [(56, .one (.val (.func (.func 31) #[] #[]))), (55, .one (vw Command.cod a0.Watch)), (54, qp 2 5)] [] (.bind (og := F36s0 n a0.Watch) ⟨some 57, POp.gcall false false [300000, 300001, 300002, 300003, 300004, 300005, 300006, 300007] [[(0, 22)], []] 36 [Operand.tmp 55, Operand.tmp 56], some (53, true), []⟩ (fun r4 => [(57, qb r4)]) (fun r4 => []) (by kernel_rfl) (fun r4 hr => pOp_eff (by kernel_rfl) (by kernel_rfl) (eff_gcall (ks := []) (rks := []) (new := []) (ARGS := [.one (vw Command.cod a0.Watch), .one (.val (.func (.func 31) #[] #[]))]) (args1 := [.one (vw Command.cod a0.Watch), .one (.val (.func (.func 31) #[] #[]))]) (args2 := [.one (vw Command.cod a0.Watch), .one (.val (.func (.func 31) #[] #[]))]) (os := []) (os' := []) (os1 := []) (res := qb r4) (res1 := qb r4) (r := qb r4) (N := []) (by kernel_rfl) (readA_ow (readA_keep (by kernel_rfl) (readA_keep (by kernel_rfl) (readA_nil)))) (by kernel_rfl) (by kernel_rfl) (by kernel_rfl) (by kernel_rfl) (F36s0_ok n a0.Watch r4 hr) (by kernel_rfl) (by kernel_rfl) (by kernel_rfl) rfl (by kernel_rfl) (by kernel_rfl) (by kernel_rfl))) (fun r4 => ?_))
                  exact SimI.rd 3 [(4, qb (!(r4))), (59, qb (!(r4))), (58, qb (!(r4)))] [] (.thenN (.ret .fn))
                · exact SimI.rd 7 [(4, qb false), (59, qb false), (58, .tup []), (57, .tup []), (56, .tup []), (55, .tup []), (54, .tup [])] [] (.thenN (.ret .fn))
              · exact SimI.rd 14 [(4, qb false), (59, qb false), (58, .tup []), (57, .tup []), (56, .tup []), (55, .tup []), (54, .tup []), (53, qb false), (52, qb false), (51, .tup []), (50, .tup []), (49, .tup []), (48, .tup []), (47, .tup [])] [] (.thenN (.ret .fn))
            · exact SimI.rd 21 [(4, qb false), (59, qb false), (58, .tup []), (57, .tup []), (56, .tup []), (55, .tup []), (54, .tup []), (53, qb false), (52, qb false), (51, .tup []), (50, .tup []), (49, .tup []), (48, .tup []), (47, .tup []), (46, qb false), (45, qb false), (44, .tup []), (43, .tup []), (42, .tup []), (41, .tup []), (40, .tup [])] [] (.thenN (.ret .fn))


-- 37: slices.Equal[[]vedette/api.Thing,vedette/api.Thing]
def F37_e : Bool → PV × List Ob := fun r => (.one (lb r), [])
def F37_l4 (n : Nat) (a0 : (List Thing)) (a1 : (List Thing)) : Nat → Int → Option Bool
  | 0, _ => none
  | m + 1, i3 =>
    if decide (i3 < ((a0).length : Int)) then
      (ix a0 i3).bind fun (x5 : Thing) =>
      (ix a1 i3).bind fun (x6 : Thing) =>
      if !(Thing.eqb x5 x6) then
        some false
      else
        (F37_l4 n a0 a1 m) (IntKind.wrap .i64 (i3 + 1))
    else
      some true
theorem F37_l4_ok (n : Nat) (a0 : (List Thing)) (a1 : (List Thing)) : ∀ (m : Nat) (i3 : Int), SimL Try.prog D (n + 8) m pc37_c27 [(0, .one (vw Thing.cod a0)), (1, .one (vw Thing.cod a1)), (12, qj ((a0).length : Int)), (13, qj i3)] [] (F37_l4 n a0 a1 m i3) (QB 0 (QT Try.prog D (n + 8) pc37_c33 (QF false pc37_r 0 F37_e))) := by
  intro m_l4
  induction m_l4 with
  | zero => intro i3; exact SimL.zero'  rfl
  | succ m_l4 ih_l4 =>
    intro i3
    refine SimL.succ ?_
    unfold F37_l4
    refine Sim.seq (.rg [(0, .one (vw Thing.cod a0)), (1, .one (vw Thing.cod a1)), (12, qj ((a0).length : Int)), (13, qj i3)] [] (.rd 1 [(14, qb (decide (i3 < ((a0).length : Int))))] [] (.thenN (.seq (.cond (decide (i3 < ((a0).length : Int))) (by kernel_rfl) ?_ ?_)))))
    · refine Sim.skip (.thenN (.seq (.block (.sr 2 [(5, qj i3), (15, qj i3)] [] (.st 2 [(17, qj i3), (16, .one (vw Thing.cod a0))] [] (.bind (og := ix a0 i3) ⟨some 18, POp.iaddrS 11 (Operand.tmp 16) (Operand.tmp 17), none, [(16, Hint.imm), (17, Hint.imm)]⟩ (fun x5 => [(18, .one (.eptr (Thing.cod.enc x5) 0))]) (fun x5 => []) (by kernel_rfl) (fun x5 hr => pOp_eff (by kernel_rfl) (by kernel_rfl) (eff_idx (c := Thing.cod) (l := a0) (k := .i64) (n := i3) (by kernel_rfl) (by kernel_rfl) (by kernel_rfl) hr)) (fun x5 => ?_)))))))
      refine SimI.rn 3 [(21, qj i3), (20, .one (vw Thing.cod a1)), (19, .agg (Thing.cells x5))] [] (.bind (og := ix a1 i3) ⟨some 22, POp.iaddrS 11 (Operand.tmp 20) (Operand.tmp 21), none, [(20, Hint.imm), (21, Hint.imm)]⟩ (fun x6 => [(22, .one (.eptr (Thing.cod.enc x6) 0))]) (fun x6 => []) (by kernel_rfl) (fun x6 hr => pOp_eff (by kernel_rfl) (by kernel_rfl) (eff_idx (c := Thing.cod) (l := a1) (k := .i64) (n := i3) (by kernel_rfl) (by kernel_rfl) (by kernel_rfl) hr)) (fun x6 => ?_))
      refine SimI.rn 1 [(23, .agg (Thing.cells x6))] [] (.step ⟨some 24, POp.prim (Prim.bin BinOp.neq 55 false false) [Operand.tmp 19, Operand.tmp 23], none, [(19, Hint.imm), (23, Hint.imm)]⟩ [(24, qb (!(Thing.eqb x5 x6)))] [] (by kernel_rfl) (pOp_eff (by kernel_rfl) (by kernel_rfl) (eff_prim (by kernel_rfl) (Thing_eqn x5 x6 _ _))) (.dn (.thenN (.cond (!(Thing.eqb x5 x6)) (by kernel_rfl) ?_ ?_))))
      · exact Sim.sr 1 [(4, qb false)] [] (.ret (.blockR (.thenR (.loopR (.blockR (.thenR .fn))))))
      · refine Sim.skip (.blockN (.thenN (.region0 (.rd 2 [(13, qj (IntKind.wrap .i64 (i3 + 1))), (25, qj (IntKind.wrap .i64 (i3 + 1)))] [] (.loopN (.pr [0, 1, 12, 13] [] [] [(0, .one (vw Thing.cod a0)), (1, .one (vw Thing.cod a1)), (12, qj ((a0).length : Int)), (13, qj (IntKind.wrap .i64 (i3 + 1)))] [] ?_))))))
        exact ih_l4 (IntKind.wrap .i64 (i3 + 1))
    · exact Sim.exit (.thenX (.loopX (.blockX (.thenN (.sr 1 [(4, qb true)] [] (.ret .fn))))))

def F37 (n : Nat) (a0 : (List Thing)) (a1 : (List Thing)) : Option Bool :=
  if ((a0).length : Int) != ((a1).length : Int) then
    some false
  else
    F37_l4 n a0 a1 (n + 8) 0
theorem F37_ok (n : Nat) (a0 : (List Thing)) (a1 : (List Thing)) : ∀ r, F37 n a0 a1 = some r → D 37 [.one (vw Thing.cod a0), .one (vw Thing.cod a1)] [] = some (F37_e r) := by
  refine fn_to (D := D) (n := n + 8) (nt := 26) (rs := pc37_r) (c := pc37_c36) (L := [(0, .one (vw Thing.cod a0)), (1, .one (vw Thing.cod a1))]) (M := []) (k := 0) rfl rfl rfl rfl rfl rfl rfl ?_
  unfold F37
  refine Sim.sr 1 [(4, qb false)] [] (.seq (.sr 5 [(10, qb (((a0).length : Int) != ((a1).length : Int))), (9, qj ((a1).length : Int)), (8, .one (vw Thing.cod a1)), (7, qj ((a0).length : Int)), (6, .one (vw Thing.cod a0))] [] (.cond (((a0).length : Int) != ((a1).length : Int)) (by kernel_rfl) ?_ ?_)))
  · exact Sim.sr 1 [(4, qb false)] [] (.ret (.thenR .fn))
  · refine Sim.skip (.thenN (.seq (.sr 3 [(13, qj 0), (12, qj ((a0).length : Int)), (11, .one (vw Thing.cod a0))] [] (.block (.loop (.pr [0, 1, 12, 13] [] [] [(0, .one (vw Thing.cod a0)), (1, .one (vw Thing.cod a1)), (12, qj ((a0).length : Int)), (13, qj 0)] [] ?_))))))
    exact F37_l4_ok n a0 a1 (n + 8) 0


-- 38: slices.Equal[[]vedette/api.Hand,vedette/api.Hand]
def F38_e : Bool → PV × List Ob := fun r => (.one (lb r), [])
def F38_l4 (n : Nat) (a0 : (List Hand)) (a1 : (List Hand)) : Nat → Int → Option Bool
  | 0, _ => none
  | m + 1, i3 =>
    if decide (i3 < ((a0).length : Int)) then
      (ix a0 i3).bind fun (x5 : Hand) =>
      (ix a1 i3).bind fun (x6 : Hand) =>
      if !(Hand.eqb x5 x6) then
        some false
      else
        (F38_l4 n a0 a1 m) (IntKind.wrap .i64 (i3 + 1))
    else
      some true
theorem F38_l4_ok (n : Nat) (a0 : (List Hand)) (a1 : (List Hand)) : ∀ (m : Nat) (i3 : Int), SimL Try.prog D (n + 8) m pc38_c27 [(0, .one (vw Hand.cod a0)), (1, .one (vw Hand.cod a1)), (12, qj ((a0).length : Int)), (13, qj i3)] [] (F38_l4 n a0 a1 m i3) (QB 0 (QT Try.prog D (n + 8) pc38_c33 (QF false pc38_r 0 F38_e))) := by
  intro m_l4
  induction m_l4 with
  | zero => intro i3; exact SimL.zero'  rfl
  | succ m_l4 ih_l4 =>
    intro i3
    refine SimL.succ ?_
    unfold F38_l4
    refine Sim.seq (.rg [(0, .one (vw Hand.cod a0)), (1, .one (vw Hand.cod a1)), (12, qj ((a0).length : Int)), (13, qj i3)] [] (.rd 1 [(14, qb (decide (i3 < ((a0).length : Int))))] [] (.thenN (.seq (.cond (decide (i3 < ((a0).length : Int))) (by kernel_rfl) ?_ ?_)))))
    · refine Sim.skip (.thenN (.seq (.block (.sr 2 [(5, qj i3), (15, qj i3)] [] (.st 2 [(17, qj i3), (16, .one (vw Hand.cod a0))] [] (.bind (og := ix a0 i3) ⟨some 18, POp.iaddrS 2 (Operand.tmp 16) (Operand.tmp 17), none, [(16, Hint.imm), (17, Hint.imm)]⟩ (fun x5 => [(18, .one (.eptr (Hand.cod.enc x5) 0))]) (fun x5 => []) (by kernel_rfl) (fun x5 hr => pOp_eff (by kernel_rfl) (by kernel_rfl) (eff_idx (c := Hand.cod) (l := a0) (k := .i64) (n := i3) (by kernel_rfl) (by kernel_rfl) (by kernel_rfl) hr)) (fun x5 => ?_)))))))
      refine SimI.rn 3 [(21, qj i3), (20, .one (vw Hand.cod a1)), (19, .agg [lj x5.Cell, lj x5.To])] [] (.bind (og := ix a1 i3) ⟨some 22, POp.iaddrS 2 (Operand.tmp 20) (Operand.tmp 21), none, [(20, Hint.imm), (21, Hint.imm)]⟩ (fun x6 => [(22, .one (.eptr (Hand.cod.enc x6) 0))]) (fun x6 => []) (by kernel_rfl) (fun x6 hr => pOp_eff (by kernel_rfl) (by kernel_rfl) (eff_idx (c := Hand.cod) (l := a1) (k := .i64) (n := i3) (by kernel_rfl) (by kernel_rfl) (by kernel_rfl) hr)) (fun x6 => ?_))
      refine SimI.rn 1 [(23, .agg [lj x6.Cell, lj x6.To])] [] (.step ⟨some 24, POp.prim (Prim.bin BinOp.neq 44 false false) [Operand.tmp 19, Operand.tmp 23], none, [(19, Hint.imm), (23, Hint.imm)]⟩ [(24, qb (!(Hand.eqb x5 x6)))] [] (by kernel_rfl) (pOp_eff (by kernel_rfl) (by kernel_rfl) (eff_prim (by kernel_rfl) (Hand_eqn x5 x6 _ _))) (.dn (.thenN (.cond (!(Hand.eqb x5 x6)) (by kernel_rfl) ?_ ?_))))
      · exact Sim.sr 1 [(4, qb false)] [] (.ret (.blockR (.thenR (.loopR (.blockR (.thenR .fn))))))
      · refine Sim.skip (.blockN (.thenN (.region0 (.rd 2 [(13, qj (IntKind.wrap .i64 (i3 + 1))), (25, qj (IntKind.wrap .i64 (i3 + 1)))] [] (.loopN (.pr [0, 1, 12, 13] [] [] [(0, .one (vw Hand.cod a0)), (1, .one (vw Hand.cod a1)), (12, qj ((a0).length : Int)), (13, qj (IntKind.wrap .i64 (i3 + 1)))] [] ?_))))))
        exact ih_l4 (IntKind.wrap .i64 (i3 + 1))
    · exact Sim.exit (.thenX (.loopX (.blockX (.thenN (.sr 1 [(4, qb true)] [] (.ret .fn))))))

def F38 (n : Nat) (a0 : (List Hand)) (a1 : (List Hand)) : Option Bool :=
  if ((a0).length : Int) != ((a1).length : Int) then
    some false
  else
    F38_l4 n a0 a1 (n + 8) 0
theorem F38_ok (n : Nat) (a0 : (List Hand)) (a1 : (List Hand)) : ∀ r, F38 n a0 a1 = some r → D 38 [.one (vw Hand.cod a0), .one (vw Hand.cod a1)] [] = some (F38_e r) := by
  refine fn_to (D := D) (n := n + 8) (nt := 26) (rs := pc38_r) (c := pc38_c36) (L := [(0, .one (vw Hand.cod a0)), (1, .one (vw Hand.cod a1))]) (M := []) (k := 0) rfl rfl rfl rfl rfl rfl rfl ?_
  unfold F38
  refine Sim.sr 1 [(4, qb false)] [] (.seq (.sr 5 [(10, qb (((a0).length : Int) != ((a1).length : Int))), (9, qj ((a1).length : Int)), (8, .one (vw Hand.cod a1)), (7, qj ((a0).length : Int)), (6, .one (vw Hand.cod a0))] [] (.cond (((a0).length : Int) != ((a1).length : Int)) (by kernel_rfl) ?_ ?_)))
  · exact Sim.sr 1 [(4, qb false)] [] (.ret (.thenR .fn))
  · refine Sim.skip (.thenN (.seq (.sr 3 [(13, qj 0), (12, qj ((a0).length : Int)), (11, .one (vw Hand.cod a0))] [] (.block (.loop (.pr [0, 1, 12, 13] [] [] [(0, .one (vw Hand.cod a0)), (1, .one (vw Hand.cod a1)), (12, qj ((a0).length : Int)), (13, qj 0)] [] ?_))))))
    exact F38_l4_ok n a0 a1 (n + 8) 0


-- 39: slices.Equal[[]vedette/api.Command,vedette/api.Command]
def F39_e : Bool → PV × List Ob := fun r => (.one (lb r), [])
def F39_l4 (n : Nat) (a0 : (List Command)) (a1 : (List Command)) : Nat → Int → Option Bool
  | 0, _ => none
  | m + 1, i3 =>
    if decide (i3 < ((a0).length : Int)) then
      (ix a0 i3).bind fun (x5 : Command) =>
      (ix a1 i3).bind fun (x6 : Command) =>
      if !(Command.eqb x5 x6) then
        some false
      else
        (F39_l4 n a0 a1 m) (IntKind.wrap .i64 (i3 + 1))
    else
      some true
theorem F39_l4_ok (n : Nat) (a0 : (List Command)) (a1 : (List Command)) : ∀ (m : Nat) (i3 : Int), SimL Try.prog D (n + 8) m pc39_c27 [(0, .one (vw Command.cod a0)), (1, .one (vw Command.cod a1)), (12, qj ((a0).length : Int)), (13, qj i3)] [] (F39_l4 n a0 a1 m i3) (QB 0 (QT Try.prog D (n + 8) pc39_c33 (QF false pc39_r 0 F39_e))) := by
  intro m_l4
  induction m_l4 with
  | zero => intro i3; exact SimL.zero'  rfl
  | succ m_l4 ih_l4 =>
    intro i3
    refine SimL.succ ?_
    unfold F39_l4
    refine Sim.seq (.rg [(0, .one (vw Command.cod a0)), (1, .one (vw Command.cod a1)), (12, qj ((a0).length : Int)), (13, qj i3)] [] (.rd 1 [(14, qb (decide (i3 < ((a0).length : Int))))] [] (.thenN (.seq (.cond (decide (i3 < ((a0).length : Int))) (by kernel_rfl) ?_ ?_)))))
    · refine Sim.skip (.thenN (.seq (.block (.sr 2 [(5, qj i3), (15, qj i3)] [] (.st 2 [(17, qj i3), (16, .one (vw Command.cod a0))] [] (.bind (og := ix a0 i3) ⟨some 18, POp.iaddrS 22 (Operand.tmp 16) (Operand.tmp 17), none, [(16, Hint.imm), (17, Hint.imm)]⟩ (fun x5 => [(18, .one (.eptr (Command.cod.enc x5) 0))]) (fun x5 => []) (by kernel_rfl) (fun x5 hr => pOp_eff (by kernel_rfl) (by kernel_rfl) (eff_idx (c := Command.cod) (l := a0) (k := .i64) (n := i3) (by kernel_rfl) (by kernel_rfl) (by kernel_rfl) hr)) (fun x5 => ?_)))))))
      refine SimI.rn 3 [(21, qj i3), (20, .one (vw Command.cod a1)), (19, .agg (Command.cells x5))] [] (.bind (og := ix a1 i3) ⟨some 22, POp.iaddrS 22 (Operand.tmp 20) (Operand.tmp 21), none, [(20, Hint.imm), (21, Hint.imm)]⟩ (fun x6 => [(22, .one (.eptr (Command.cod.enc x6) 0))]) (fun x6 => []) (by kernel_rfl) (fun x6 hr => pOp_eff (by kernel_rfl) (by kernel_rfl) (eff_idx (c := Command.cod) (l := a1) (k := .i64) (n := i3) (by kernel_rfl) (by kernel_rfl) (by kernel_rfl) hr)) (fun x6 => ?_))
      refine SimI.rn 1 [(23, .agg (Command.cells x6))] [] (.step ⟨some 24, POp.prim (Prim.bin BinOp.neq 53 false false) [Operand.tmp 19, Operand.tmp 23], none, [(19, Hint.imm), (23, Hint.imm)]⟩ [(24, qb (!(Command.eqb x5 x6)))] [] (by kernel_rfl) (pOp_eff (by kernel_rfl) (by kernel_rfl) (eff_prim (by kernel_rfl) (Command_eqn x5 x6 _ _))) (.dn (.thenN (.cond (!(Command.eqb x5 x6)) (by kernel_rfl) ?_ ?_))))
      · exact Sim.sr 1 [(4, qb false)] [] (.ret (.blockR (.thenR (.loopR (.blockR (.thenR .fn))))))
      · refine Sim.skip (.blockN (.thenN (.region0 (.rd 2 [(13, qj (IntKind.wrap .i64 (i3 + 1))), (25, qj (IntKind.wrap .i64 (i3 + 1)))] [] (.loopN (.pr [0, 1, 12, 13] [] [] [(0, .one (vw Command.cod a0)), (1, .one (vw Command.cod a1)), (12, qj ((a0).length : Int)), (13, qj (IntKind.wrap .i64 (i3 + 1)))] [] ?_))))))
        exact ih_l4 (IntKind.wrap .i64 (i3 + 1))
    · exact Sim.exit (.thenX (.loopX (.blockX (.thenN (.sr 1 [(4, qb true)] [] (.ret .fn))))))

def F39 (n : Nat) (a0 : (List Command)) (a1 : (List Command)) : Option Bool :=
  if ((a0).length : Int) != ((a1).length : Int) then
    some false
  else
    F39_l4 n a0 a1 (n + 8) 0
theorem F39_ok (n : Nat) (a0 : (List Command)) (a1 : (List Command)) : ∀ r, F39 n a0 a1 = some r → D 39 [.one (vw Command.cod a0), .one (vw Command.cod a1)] [] = some (F39_e r) := by
  refine fn_to (D := D) (n := n + 8) (nt := 26) (rs := pc39_r) (c := pc39_c36) (L := [(0, .one (vw Command.cod a0)), (1, .one (vw Command.cod a1))]) (M := []) (k := 0) rfl rfl rfl rfl rfl rfl rfl ?_
  unfold F39
  refine Sim.sr 1 [(4, qb false)] [] (.seq (.sr 5 [(10, qb (((a0).length : Int) != ((a1).length : Int))), (9, qj ((a1).length : Int)), (8, .one (vw Command.cod a1)), (7, qj ((a0).length : Int)), (6, .one (vw Command.cod a0))] [] (.cond (((a0).length : Int) != ((a1).length : Int)) (by kernel_rfl) ?_ ?_)))
  · exact Sim.sr 1 [(4, qb false)] [] (.ret (.thenR .fn))
  · refine Sim.skip (.thenN (.seq (.sr 3 [(13, qj 0), (12, qj ((a0).length : Int)), (11, .one (vw Command.cod a0))] [] (.block (.loop (.pr [0, 1, 12, 13] [] [] [(0, .one (vw Command.cod a0)), (1, .one (vw Command.cod a1)), (12, qj ((a0).length : Int)), (13, qj 0)] [] ?_))))))
    exact F39_l4_ok n a0 a1 (n + 8) 0


-- 12: vedette/note.Same
def F12_e : Bool → PV × List Ob := fun r => (.one (lb r), [])
def F12 (n : Nat) (a0 : Note) (a1 : Note) : Option Bool :=
  if a0.From == a1.From then
    if a0.Beat == a1.Beat then
      (F37 n a0.Moved a1.Moved).bind fun (r1 : Bool) =>
      if r1 then
        (F38 n a0.Hands a1.Hands).bind fun (r2 : Bool) =>
        if r2 then
          (F37 n a0.Given a1.Given).bind fun (r3 : Bool) =>
          if r3 then
            (F39 n a0.Watch a1.Watch).bind fun (r4 : Bool) =>
            some r4
          else
            some false
        else
          some false
      else
        some false
    else
      some false
  else
    some false
theorem F12_ok (n : Nat) (a0 : Note) (a1 : Note) : ∀ r, F12 n a0 a1 = some r → D 12 [.agg [li .i64 a0.From, li .i64 a0.Beat, vw Thing.cod a0.Moved, vw Hand.cod a0.Hands, vw Thing.cod a0.Given, vw Command.cod a0.Watch], .agg [li .i64 a1.From, li .i64 a1.Beat, vw Thing.cod a1.Moved, vw Hand.cod a1.Hands, vw Thing.cod a1.Given, vw Command.cod a1.Watch]] [] = some (F12_e r) := by
  refine fn_to (D := D) (n := n + 8) (nt := 45) (rs := pc12_r) (c := pc12_c5) (L := [(0, .agg [lj a0.From, lj a0.Beat, vw Thing.cod a0.Moved, vw Hand.cod a0.Hands, vw Thing.cod a0.Given, vw Command.cod a0.Watch]), (1, .agg [lj a1.From, lj a1.Beat, vw Thing.cod a1.Moved, vw Hand.cod a1.Hands, vw Thing.cod a1.Given, vw Command.cod a1.Watch])]) (M := []) (k := 0) rfl rfl rfl rfl rfl rfl rfl ?_
  unfold F12
  refine Sim.sr 3 [(4, qb false), (3, qp 3 0), (2, qp 2 0)] [(3, some (.cells [lj a1.From, lj a1.Beat, vw Thing.cod a1.Moved, vw Hand.cod a1.Hands, vw Thing.cod a1.Given, vw Command.cod a1.Watch])), (2, some (.cells [lj a0.From, lj a0.Beat, vw Thing.cod a0.Moved, vw Hand.cod a0.Hands, vw Thing.cod a0.Given, vw Command.cod a0.Watch]))] (.st 6 [(10, qb (a0.From == a1.From)), (9, qb (a0.From == a1.From)), (8, qj a1.From), (7, qp 3 0), (6, qj a0.From), (5, qp 2 0)] [] (.split 10 (a0.From == a1.From) (by kernel_rfl) ?_ ?_))
  · refine SimI.rn 7 [(17, qb (a0.Beat == a1.Beat)), (16, qb (a0.Beat == a1.Beat)), (15, qb (a0.Beat == a1.Beat)), (14, qj a1.Beat), (13, qp 3 1), (12, qj a0.Beat), (11, qp 2 1)] [] (.split 17 (a0.Beat == a1.Beat) (by kernel_rfl) ?_ ?_)
    · refine SimI.rn 4 [(21, .one (vw Thing.cod a1.Moved)), (20, qp 3 2), (19, .one (vw Thing.cod a0.Moved)), (18, qp 2 2)] [] (.cl 22 true [[(0, 11)], [(0, 11)]] 37 [Operand.tmp 19, Operand.tmp 21] (some (17, true)) (fun r1 => qb r1) [.one (vw Thing.cod a0.Moved), .one (vw Thing.cod a1.Moved)] (F37_ok n a0.Moved a1.Moved) (fun r1 => ?_))
      refine SimI.rn 2 [(24, qb r1), (23, qb r1)] [] (.split 24 r1 (by kernel_rfl) ?_ ?_)
      · refine SimI.rn 4 [(28, .one (vw Hand.cod a1.Hands)), (27, qp 3 3), (26, .one (vw Hand.cod a0.Hands)), (25, qp 2 3)] [] (.cl 29 true [[(0, 2)], [(0, 2)]] 38 [Operand.tmp 26, Operand.tmp 28] (some (24, true)) (fun r2 => qb r2) [.one (vw Hand.cod a0.Hands), .one (vw Hand.cod a1.Hands)] (F38_ok n a0.Hands a1.Hands) (fun r2 => ?_))
        refine SimI.rn 2 [(31, qb r2), (30, qb r2)] [] (.split 31 r2 (by kernel_rfl) ?_ ?_)
        · refine SimI.rn 4 [(35, .one (vw Thing.cod a1.Given)), (34, qp 3 4), (33, .one (vw Thing.cod a0.Given)), (32, qp 2 4)] [] (.cl 36 true [[(0, 11)], [(0, 11)]] 37 [Operand.tmp 33, Operand.tmp 35] (some (31, true)) (fun r3 => qb r3) [.one (vw Thing.cod a0.Given), .one (vw Thing.cod a1.Given)] (F37_ok n a0.Given a1.Given) (fun r3 => ?_))
          refine SimI.rn 2 [(38, qb r3), (37, qb r3)] [] (.split 38 r3 (by kernel_rfl) ?_ ?_)
          · refine SimI.rn 4 [(42, .one (vw Command.cod a1.Watch)), (41, qp 3 5), (40, .one (vw Command.cod a0.Watch)), (39, qp 2 5)] [] (.cl 43 true [[(0, 22)], [(0, 22)]] 39 [Operand.tmp 40, Operand.tmp 42] (some (38, true)) (fun r4 => qb r4) [.one (vw Command.cod a0.Watch), .one (vw Command.cod a1.Watch)] (F39_ok n a0.Watch a1.Watch) (fun r4 => ?_))
            exact SimI.rd 2 [(4, qb r4), (44, qb r4)] [] (.thenN (.ret .fn))
          · exact SimI.rd 7 [(4, qb false), (44, qb false), (43, .tup []), (42, .tup []), (41, .tup []), (40, .tup []), (39, .tup [])] [] (.thenN (.ret .fn))
        · exact SimI.rd 14 [(4, qb false), (44, qb false), (43, .tup []), (42, .tup []), (41, .tup []), (40, .tup []), (39, .tup []), (38, qb false), (37, qb false), (36, .tup []), (35, .tup []), (34, .tup []), (33, .tup []), (32, .tup [])] [] (.thenN (.ret .fn))
      · exact SimI.rd 21 [(4, qb false), (44, qb false), (43, .tup []), (42, .tup []), (41, .tup []), (40, .tup []), (39, .tup []), (38, qb false), (37, qb false), (36, .tup []), (35, .tup []), (34, .tup []), (33, .tup []), (32, .tup []), (31, qb false), (30, qb false), (29, .tup []), (28, .tup []), (27, .tup []), (26, .tup []), (25, .tup [])] [] (.thenN (.ret .fn))
    · exact SimI.rd 28 [(4, qb false), (44, qb false), (43, .tup []), (42, .tup []), (41, .tup []), (40, .tup []), (39, .tup []), (38, qb false), (37, qb false), (36, .tup []), (35, .tup []), (34, .tup []), (33, .tup []), (32, .tup []), (31, qb false), (30, qb false), (29, .tup []), (28, .tup []), (27, .tup []), (26, .tup []), (25, .tup []), (24, qb false), (23, qb false), (22, .tup []), (21, .tup []), (20, .tup []), (19, .tup []), (18, .tup [])] [] (.thenN (.ret .fn))
  · exact SimI.rd 35 [(4, qb false), (44, qb false), (43, .tup []), (42, .tup []), (41, .tup []), (40, .tup []), (39, .tup []), (38, qb false), (37, qb false), (36, .tup []), (35, .tup []), (34, .tup []), (33, .tup []), (32, .tup []), (31, qb false), (30, qb false), (29, .tup []), (28, .tup []), (27, .tup []), (26, .tup []), (25, .tup []), (24, qb false), (23, qb false), (22, .tup []), (21, .tup []), (20, .tup []), (19, .tup []), (18, .tup []), (17, qb false), (16, qb false), (15, .tup []), (14, .tup []), (13, .tup []), (12, .tup []), (11, .tup [])] [] (.thenN (.ret .fn))


-- 7: vedette/vedettelaw17.known
theorem F7_ok (n : Nat) : ∀ r, (some true : Option Bool) = some r → D 7 [] [] = some (.one (lb r), []) := by
  rintro _ ⟨⟩
  exact all_of (N := 60) (by kernel_rfl)


-- 16: vedette/vedettelaw17.fewCmd
def F16_e : Bool → PV × List Ob := fun r => (.one (lb r), [])
def F16 (n : Nat) (a0 : Command) : Option Bool :=
  if decide ((40 : Int) < (a0.F.a0.Text.size : Int)) then
    some false
  else
    if decide ((40 : Int) < (a0.F.a1.Text.size : Int)) then
      some false
    else
      if decide ((40 : Int) < (a0.F.a2.Text.size : Int)) then
        some false
      else
        if decide ((40 : Int) < (a0.F.a3.Text.size : Int)) then
          some false
        else
          some (decide ((a0.Value.Text.size : Int) ≤ 40))
theorem F16_ok (n : Nat) (a0 : Command) : ∀ r, F16 n a0 = some r → D 16 [.agg (Command.cells a0)] [] = some (F16_e r) := by
  refine fn_to (D := D) (n := n + 8) (nt := 20) (rs := pc16_r) (c := pc16_c26) (L := [(0, .agg (Command.cells a0))]) (M := []) (k := 0) rfl rfl rfl rfl rfl rfl rfl ?_
  unfold F16
  refine Sim.sr 2 [(2, qb false), (1, qp 1 0)] [(1, some (.cells (Command.cells a0)))] (.seq (.sr 1 [(3, qj 0)] [] (.block (.loop (.succ (.seq (.seq (.rg [(1, qp 1 0), (3, qj 0)] [(1, some (.cells (Command.cells a0)))] (.rd 2 [(5, qb true), (4, qj 0)] [] (.thenN (.condT (by kernel_rfl) (.skip (.thenN (.seq (.block (.sr 7 [(14, qb (decide ((40 : Int) < (a0.F.a0.Text.size : Int)))), (13, qj (a0.F.a0.Text.size : Int)), (12, qs a0.F.a0.Text), (11, qp 1 7), (10, qp 1 6), (9, qp 1 6), (8, qj 0)] [] (.cond (decide ((40 : Int) < (a0.F.a0.Text.size : Int))) (by kernel_rfl) ?_ ?_)))))))))))))))))
  · exact Sim.sr 1 [(2, qb false)] [] (.ret (.blockR (.thenR (.loopR (.blockR (.thenR .fn))))))
  · refine Sim.skip (.blockN (.thenN (.region0 (.rd 3 [(3, qj 1), (7, qj 1), (6, qj 0)] [] (.loopN (.succ (.seq (.seq (.rg [(1, qp 1 0), (3, qj 1)] [(1, some (.cells (Command.cells a0)))] (.rd 2 [(5, qb true), (4, qj 1)] [] (.thenN (.condT (by kernel_rfl) (.skip (.thenN (.seq (.block (.sr 7 [(14, qb (decide ((40 : Int) < (a0.F.a1.Text.size : Int)))), (13, qj (a0.F.a1.Text.size : Int)), (12, qs a0.F.a1.Text), (11, qp 1 9), (10, qp 1 8), (9, qp 1 6), (8, qj 1)] [] (.cond (decide ((40 : Int) < (a0.F.a1.Text.size : Int))) (by kernel_rfl) ?_ ?_))))))))))))))))))
    · exact Sim.sr 1 [(2, qb false)] [] (.ret (.blockR (.thenR (.loopR (.blockR (.thenR .fn))))))
    · refine Sim.skip (.blockN (.thenN (.region0 (.rd 3 [(3, qj 2), (7, qj 2), (6, qj 1)] [] (.loopN (.succ (.seq (.seq (.rg [(1, qp 1 0), (3, qj 2)] [(1, some (.cells (Command.cells a0)))] (.rd 2 [(5, qb true), (4, qj 2)] [] (.thenN (.condT (by kernel_rfl) (.skip (.thenN (.seq (.block (.sr 7 [(14, qb (decide ((40 : Int) < (a0.F.a2.Text.size : Int)))), (13, qj (a0.F.a2.Text.size : Int)), (12, qs a0.F.a2.Text), (11, qp 1 11), (10, qp 1 10), (9, qp 1 6), (8, qj 2)] [] (.cond (decide ((40 : Int) < (a0.F.a2.Text.size : Int))) (by kernel_rfl) ?_ ?_))))))))))))))))))
      · exact Sim.sr 1 [(2, qb false)] [] (.ret (.blockR (.thenR (.loopR (.blockR (.thenR .fn))))))
      · refine Sim.skip (.blockN (.thenN (.region0 (.rd 3 [(3, qj 3), (7, qj 3), (6, qj 2)] [] (.loopN (.succ (.seq (.seq (.rg [(1, qp 1 0), (3, qj 3)] [(1, some (.cells (Command.cells a0)))] (.rd 2 [(5, qb true), (4, qj 3)] [] (.thenN (.condT (by kernel_rfl) (.skip (.thenN (.seq (.block (.sr 7 [(14, qb (decide ((40 : Int) < (a0.F.a3.Text.size : Int)))), (13, qj (a0.F.a3.Text.size : Int)), (12, qs a0.F.a3.Text), (11, qp 1 13), (10, qp 1 12), (9, qp 1 6), (8, qj 3)] [] (.cond (decide ((40 : Int) < (a0.F.a3.Text.size : Int))) (by kernel_rfl) ?_ ?_))))))))))))))))))
        · exact Sim.sr 1 [(2, qb false)] [] (.ret (.blockR (.thenR (.loopR (.blockR (.thenR .fn))))))
        · exact Sim.skip (.blockN (.thenN (.region0 (.rd 3 [(3, qj 4), (7, qj 4), (6, qj 3)] [] (.loopN (.succ (.seq (.seq (.rg [(1, qp 1 0), (3, qj 4)] [(1, some (.cells (Command.cells a0)))] (.rd 2 [(5, qb false), (4, qj 4)] [] (.thenN (.condF (by kernel_rfl) (.exit (.thenX (.loopX (.blockX (.thenN (.sr 6 [(2, qb (decide ((a0.Value.Text.size : Int) ≤ 40))), (19, qb (decide ((a0.Value.Text.size : Int) ≤ 40))), (18, qj (a0.Value.Text.size : Int)), (17, qs a0.Value.Text), (16, qp 1 15), (15, qp 1 14)] [] (.ret .fn)))))))))))))))))))


-- 74: vedette/vedettelaw17.fewField
def F74_e : Bool → PV × List Ob := fun r => (.one (lb r), [])
def F74 (n : Nat) (a0 : Field) : Option Bool :=
  some (decide ((a0.Text.size : Int) ≤ 40))
theorem F74_ok (n : Nat) (a0 : Field) : ∀ r, F74 n a0 = some r → D 74 [.agg [li .i64 a0.N, ls a0.Text]] [] = some (F74_e r) := by
  refine fn_to (D := D) (n := n + 8) (nt := 7) (rs := pc74_r) (c := pc74_c5) (L := [(0, .agg [lj a0.N, ls a0.Text])]) (M := []) (k := 0) rfl rfl rfl rfl rfl rfl rfl ?_
  unfold F74
  exact Sim.sr 2 [(2, qb false), (1, qp 1 0)] [(1, some (.cells [lj a0.N, ls a0.Text]))] (.sr 5 [(2, qb (decide ((a0.Text.size : Int) ≤ 40))), (6, qb (decide ((a0.Text.size : Int) ≤ 40))), (5, qj (a0.Text.size : Int)), (4, qs a0.Text), (3, qp 1 1)] [] (.ret .fn))


-- 43: vedette/vedettelaw17.fewThing
def F43_e : Bool → PV × List Ob := fun r => (.one (lb r), [])
def F43 (n : Nat) (a0 : Thing) : Option Bool :=
  (F74 n a0.F.a0).bind fun (r1 : Bool) =>
  if !(r1) then
    some false
  else
    (F74 n a0.F.a1).bind fun (r2 : Bool) =>
    if !(r2) then
      some false
    else
      (F74 n a0.F.a2).bind fun (r3 : Bool) =>
      if !(r3) then
        some false
      else
        (F74 n a0.F.a3).bind fun (r4 : Bool) =>
        if !(r4) then
          some false
        else
          some true
theorem F43_ok (n : Nat) (a0 : Thing) : ∀ r, F43 n a0 = some r → D 43 [.agg (Thing.cells a0)] [] = some (F43_e r) := by
  refine fn_to (D := D) (n := n + 8) (nt := 14) (rs := pc43_r) (c := pc43_c26) (L := [(0, .agg (Thing.cells a0))]) (M := []) (k := 0) rfl rfl rfl rfl rfl rfl rfl ?_
  unfold F43
  refine Sim.sr 2 [(2, qb false), (1, qp 1 0)] [(1, some (.cells (Thing.cells a0)))] (.seq (.sr 1 [(3, qj 0)] [] (.block (.loop (.succ (.seq (.seq (.rg [(1, qp 1 0), (3, qj 0)] [(1, some (.cells (Thing.cells a0)))] (.rd 2 [(5, qb true), (4, qj 0)] [] (.thenN (.condT (by kernel_rfl) (.skip (.thenN (.seq (.block (.st 4 [(11, .agg [lj a0.F.a0.N, ls a0.F.a0.Text]), (10, qp 1 3), (9, qp 1 3), (8, qj 0)] [] (.cl 12 true [[]] 74 [Operand.tmp 11] none (fun r1 => qb r1) [.agg [lj a0.F.a0.N, ls a0.F.a0.Text]] (F74_ok n a0.F.a0) (fun r1 => ?_))))))))))))))))))
  refine SimI.rd 1 [(13, qb (!(r1)))] [] (.thenN (.cond (!(r1)) (by kernel_rfl) ?_ ?_))
  · exact Sim.sr 1 [(2, qb false)] [] (.ret (.blockR (.thenR (.loopR (.blockR (.thenR .fn))))))
  · refine Sim.skip (.blockN (.thenN (.region0 (.rd 3 [(3, qj 1), (7, qj 1), (6, qj 0)] [] (.loopN (.succ (.seq (.seq (.rg [(1, qp 1 0), (3, qj 1)] [(1, some (.cells (Thing.cells a0)))] (.rd 2 [(5, qb true), (4, qj 1)] [] (.thenN (.condT (by kernel_rfl) (.skip (.thenN (.seq (.block (.st 4 [(11, .agg [lj a0.F.a1.N, ls a0.F.a1.Text]), (10, qp 1 5), (9, qp 1 3), (8, qj 1)] [] (.cl 12 true [[]] 74 [Operand.tmp 11] none (fun r2 => qb r2) [.agg [lj a0.F.a1.N, ls a0.F.a1.Text]] (F74_ok n a0.F.a1) (fun r2 => ?_)))))))))))))))))))
    refine SimI.rd 1 [(13, qb (!(r2)))] [] (.thenN (.cond (!(r2)) (by kernel_rfl) ?_ ?_))
    · exact Sim.sr 1 [(2, qb false)] [] (.ret (.blockR (.thenR (.loopR (.blockR (.thenR .fn))))))
    · refine Sim.skip (.blockN (.thenN (.region0 (.rd 3 [(3, qj 2), (7, qj 2), (6, qj 1)] [] (.loopN (.succ (.seq (.seq (.rg [(1, qp 1 0), (3, qj 2)] [(1, some (.cells (Thing.cells a0)))] (.rd 2 [(5, qb true), (4, qj 2)] [] (.thenN (.condT (by kernel_rfl) (.skip (.thenN (.seq (.block (.st 4 [(11, .agg [lj a0.F.a2.N, ls a0.F.a2.Text]), (10, qp 1 7), (9, qp 1 3), (8, qj 2)] [] (.cl 12 true [[]] 74 [Operand.tmp 11] none (fun r3 => qb r3) [.agg [lj a0.F.a2.N, ls a0.F.a2.Text]] (F74_ok n a0.F.a2) (fun r3 => ?_)))))))))))))))))))
      refine SimI.rd 1 [(13, qb (!(r3)))] [] (.thenN (.cond (!(r3)) (by kernel_rfl) ?_ ?_))
      · exact Sim.sr 1 [(2, qb false)] [] (.ret (.blockR (.thenR (.loopR (.blockR (.thenR .fn))))))
      · refine Sim.skip (.blockN (.thenN (.region0 (.rd 3 [(3, qj 3), (7, qj 3), (6, qj 2)] [] (.loopN (.succ (.seq (.seq (.rg [(1, qp 1 0), (3, qj 3)] [(1, some (.cells (Thing.cells a0)))] (.rd 2 [(5, qb true), (4, qj 3)] [] (.thenN (.condT (by kernel_rfl) (.skip (.thenN (.seq (.block (.st 4 [(11, .agg [lj a0.F.a3.N, ls a0.F.a3.Text]), (10, qp 1 9), (9, qp 1 3), (8, qj 3)] [] (.cl 12 true [[]] 74 [Operand.tmp 11] none (fun r4 => qb r4) [.agg [lj a0.F.a3.N, ls a0.F.a3.Text]] (F74_ok n a0.F.a3) (fun r4 => ?_)))))))))))))))))))
        refine SimI.rd 1 [(13, qb (!(r4)))] [] (.thenN (.cond (!(r4)) (by kernel_rfl) ?_ ?_))
        · exact Sim.sr 1 [(2, qb false)] [] (.ret (.blockR (.thenR (.loopR (.blockR (.thenR .fn))))))
        · exact Sim.skip (.blockN (.thenN (.region0 (.rd 3 [(3, qj 4), (7, qj 4), (6, qj 3)] [] (.loopN (.succ (.seq (.seq (.rg [(1, qp 1 0), (3, qj 4)] [(1, some (.cells (Thing.cells a0)))] (.rd 2 [(5, qb false), (4, qj 4)] [] (.thenN (.condF (by kernel_rfl) (.exit (.thenX (.loopX (.blockX (.thenN (.sr 1 [(2, qb true)] [] (.ret .fn)))))))))))))))))))


-- 17: vedette/vedettelaw17.fewThings
def F17_e : Bool → PV × List Ob := fun r => (.one (lb r), [])
def F17_l4 (n : Nat) (a0 : (List Thing)) : Nat → Int → Option Bool
  | 0, _ => none
  | m + 1, i3 =>
    if decide (i3 < ((a0).length : Int)) then
      (ix a0 i3).bind fun (x5 : Thing) =>
      (F43 n x5).bind fun (r6 : Bool) =>
      if !(r6) then
        some false
      else
        (F17_l4 n a0 m) (IntKind.wrap .i64 (i3 + 1))
    else
      some (decide (((a0).length : Int) ≤ 30))
theorem F17_l4_ok (n : Nat) (a0 : (List Thing)) : ∀ (m : Nat) (i3 : Int), SimL Try.prog D (n + 8) m pc17_c18 [(0, .one (vw Thing.cod a0)), (3, qj i3)] [] (F17_l4 n a0 m i3) (QB 0 (QT Try.prog D (n + 8) pc17_c24 (QF false pc17_r 0 F17_e))) := by
  intro m_l4
  induction m_l4 with
  | zero => intro i3; exact SimL.zero'  rfl
  | succ m_l4 ih_l4 =>
    intro i3
    refine SimL.succ ?_
    unfold F17_l4
    refine Sim.seq (.seq (.rg [(0, .one (vw Thing.cod a0)), (3, qj i3)] [] (.rd 4 [(7, qb (decide (i3 < ((a0).length : Int)))), (6, qj ((a0).length : Int)), (5, .one (vw Thing.cod a0)), (4, qj i3)] [] (.thenN (.cond (decide (i3 < ((a0).length : Int))) (by kernel_rfl) ?_ ?_)))))
    · refine Sim.skip (.thenN (.seq (.block (.st 2 [(11, qj i3), (10, .one (vw Thing.cod a0))] [] (.bind (og := ix a0 i3) ⟨some 12, POp.iaddrS 11 (Operand.tmp 10) (Operand.tmp 11), none, []⟩ (fun x5 => [(12, .one (.eptr (Thing.cod.enc x5) 0))]) (fun x5 => []) (by kernel_rfl) (fun x5 hr => pOp_eff (by kernel_rfl) (by kernel_rfl) (eff_idx (c := Thing.cod) (l := a0) (k := .i64) (n := i3) (by kernel_rfl) (by kernel_rfl) (by kernel_rfl) hr)) (fun x5 => ?_))))))
      refine SimI.rn 1 [(13, .agg (Thing.cells x5))] [] (.cl 14 true [[]] 43 [Operand.tmp 13] none (fun r6 => qb r6) [.agg (Thing.cells x5)] (F43_ok n x5) (fun r6 => ?_))
      refine SimI.rd 1 [(15, qb (!(r6)))] [] (.thenN (.cond (!(r6)) (by kernel_rfl) ?_ ?_))
      · exact Sim.sr 1 [(2, qb false)] [] (.ret (.blockR (.thenR (.loopR (.blockR (.thenR .fn))))))
      · refine Sim.skip (.blockN (.thenN (.region0 (.rd 3 [(3, qj (IntKind.wrap .i64 (i3 + 1))), (9, qj (IntKind.wrap .i64 (i3 + 1))), (8, qj i3)] [] (.loopN (.pr [0, 3] [] [] [(0, .one (vw Thing.cod a0)), (3, qj (IntKind.wrap .i64 (i3 + 1)))] [] ?_))))))
        exact ih_l4 (IntKind.wrap .i64 (i3 + 1))
    · exact Sim.exit (.thenX (.loopX (.blockX (.thenN (.sr 4 [(2, qb (decide (((a0).length : Int) ≤ 30))), (18, qb (decide (((a0).length : Int) ≤ 30))), (17, qj ((a0).length : Int)), (16, .one (vw Thing.cod a0))] [] (.ret .fn))))))

def F17 (n : Nat) (a0 : (List Thing)) : Option Bool :=
  F17_l4 n a0 (n + 8) 0
theorem F17_ok (n : Nat) (a0 : (List Thing)) : ∀ r, F17 n a0 = some r → D 17 [.one (vw Thing.cod a0)] [] = some (F17_e r) := by
  refine fn_to (D := D) (n := n + 8) (nt := 19) (rs := pc17_r) (c := pc17_c26) (L := [(0, .one (vw Thing.cod a0))]) (M := []) (k := 0) rfl rfl rfl rfl rfl rfl rfl ?_
  unfold F17
  refine Sim.sr 1 [(2, qb false)] [] (.seq (.sr 1 [(3, qj 0)] [] (.block (.loop (.pr [0, 3] [] [] [(0, .one (vw Thing.cod a0)), (3, qj 0)] [] ?_)))))
  exact F17_l4_ok n a0 (n + 8) 0


-- 8: vedette/vedettelaw17.fewNote
def F8_e : Bool → PV × List Ob := fun r => (.one (lb r), [])
def F8_l4 (n : Nat) (a0 : Note) : Nat → Int → Option Bool
  | 0, _ => none
  | m + 1, i3 =>
    if decide (i3 < ((a0.Watch).length : Int)) then
      (ix a0.Watch i3).bind fun (x5 : Command) =>
      (F16 n x5).bind fun (r6 : Bool) =>
      if !(r6) then
        some false
      else
        (F8_l4 n a0 m) (IntKind.wrap .i64 (i3 + 1))
    else
      (F17 n a0.Moved).bind fun (r7 : Bool) =>
      if r7 then
        (F17 n a0.Given).bind fun (r8 : Bool) =>
        if r8 then
          if decide (((a0.Hands).length : Int) ≤ 20) then
            some (decide (((a0.Watch).length : Int) ≤ 24))
          else
            some false
        else
          some false
      else
        some false
theorem F8_l4_ok (n : Nat) (a0 : Note) : ∀ (m : Nat) (i3 : Int), SimL Try.prog D (n + 8) m pc8_c18 [(1, qp 1 0), (3, qj i3)] [(1, some (.cells [lj a0.From, lj a0.Beat, vw Thing.cod a0.Moved, vw Hand.cod a0.Hands, vw Thing.cod a0.Given, vw Command.cod a0.Watch]))] (F8_l4 n a0 m i3) (QB 0 (QT Try.prog D (n + 8) pc8_c24 (QF false pc8_r 0 F8_e))) := by
  intro m_l4
  induction m_l4 with
  | zero => intro i3; exact SimL.zero'  rfl
  | succ m_l4 ih_l4 =>
    intro i3
    refine SimL.succ ?_
    unfold F8_l4
    refine Sim.seq (.seq (.rg [(1, qp 1 0), (3, qj i3)] [(1, some (.cells [lj a0.From, lj a0.Beat, vw Thing.cod a0.Moved, vw Hand.cod a0.Hands, vw Thing.cod a0.Given, vw Command.cod a0.Watch]))] (.rd 5 [(8, qb (decide (i3 < ((a0.Watch).length : Int)))), (7, qj ((a0.Watch).length : Int)), (6, .one (vw Command.cod a0.Watch)), (5, qp 1 5), (4, qj i3)] [] (.thenN (.cond (decide (i3 < ((a0.Watch).length : Int))) (by kernel_rfl) ?_ ?_)))))
    · refine Sim.skip (.thenN (.seq (.block (.st 3 [(13, qj i3), (12, .one (vw Command.cod a0.Watch)), (11, qp 1 5)] [] (.bind (og := ix a0.Watch i3) ⟨some 14, POp.iaddrS 22 (Operand.tmp 12) (Operand.tmp 13), none, []⟩ (fun x5 => [(14, .one (.eptr (Command.cod.enc x5) 0))]) (fun x5 => []) (by kernel_rfl) (fun x5 hr => pOp_eff (by kernel_rfl) (by kernel_rfl) (eff_idx (c := Command.cod) (l := a0.Watch) (k := .i64) (n := i3) (by kernel_rfl) (by kernel_rfl) (by kernel_rfl) hr)) (fun x5 => ?_))))))
      refine SimI.rn 1 [(15, .agg (Command.cells x5))] [] (.cl 16 true [[]] 16 [Operand.tmp 15] none (fun r6 => qb r6) [.agg (Command.cells x5)] (F16_ok n x5) (fun r6 => ?_))
      refine SimI.rd 1 [(17, qb (!(r6)))] [] (.thenN (.cond (!(r6)) (by kernel_rfl) ?_ ?_))
      · exact Sim.sr 1 [(2, qb false)] [] (.ret (.blockR (.thenR (.loopR (.blockR (.thenR .fn))))))
      · refine Sim.skip (.blockN (.thenN (.region0 (.rd 3 [(3, qj (IntKind.wrap .i64 (i3 + 1))), (10, qj (IntKind.wrap .i64 (i3 + 1))), (9, qj i3)] [] (.loopN (.pr [1, 3] [1] [] [(1, qp 1 0), (3, qj (IntKind.wrap .i64 (i3 + 1)))] [(1, some (.cells [lj a0.From, lj a0.Beat, vw Thing.cod a0.Moved, vw Hand.cod a0.Hands, vw Thing.cod a0.Given, vw Command.cod a0.Watch]))] ?_))))))
        exact ih_l4 (IntKind.wrap .i64 (i3 + 1))
    · refine Sim.exit (.thenX (.loopX (.blockX (.thenN (.st 2 [(19, .one (vw Thing.cod a0.Moved)), (18, qp 1 2)] [] (.cl 20 true [[(0, 11)]] 17 [Operand.tmp 19] none (fun r7 => qb r7) [.one (vw Thing.cod a0.Moved)] (F17_ok n a0.Moved) (fun r7 => ?_)))))))
      refine SimI.rn 1 [(21, qb r7)] [] (.split 21 r7 (by kernel_rfl) ?_ ?_)
      · refine SimI.rn 2 [(23, .one (vw Thing.cod a0.Given)), (22, qp 1 4)] [] (.cl 24 true [[(0, 11)]] 17 [Operand.tmp 23] (some (21, true)) (fun r8 => qb r8) [.one (vw Thing.cod a0.Given)] (F17_ok n a0.Given) (fun r8 => ?_))
        refine SimI.rn 2 [(26, qb r8), (25, qb r8)] [] (.split 26 r8 (by kernel_rfl) ?_ ?_)
        · refine SimI.rn 6 [(32, qb (decide (((a0.Hands).length : Int) ≤ 20))), (31, qb (decide (((a0.Hands).length : Int) ≤ 20))), (30, qb (decide (((a0.Hands).length : Int) ≤ 20))), (29, qj ((a0.Hands).length : Int)), (28, .one (vw Hand.cod a0.Hands)), (27, qp 1 3)] [] (.split 32 (decide (((a0.Hands).length : Int) ≤ 20)) (by kernel_rfl) ?_ ?_)
          · exact SimI.rd 6 [(2, qb (decide (((a0.Watch).length : Int) ≤ 24))), (37, qb (decide (((a0.Watch).length : Int) ≤ 24))), (36, qb (decide (((a0.Watch).length : Int) ≤ 24))), (35, qj ((a0.Watch).length : Int)), (34, .one (vw Command.cod a0.Watch)), (33, qp 1 5)] [] (.thenN (.ret .fn))
          · exact SimI.rd 6 [(2, qb false), (37, qb false), (36, .tup []), (35, .tup []), (34, .tup []), (33, .tup [])] [] (.thenN (.ret .fn))
        · exact SimI.rd 12 [(2, qb false), (37, qb false), (36, .tup []), (35, .tup []), (34, .tup []), (33, .tup []), (32, qb false), (31, qb false), (30, .tup []), (29, .tup []), (28, .tup []), (27, .tup [])] [] (.thenN (.ret .fn))
      · exact SimI.rd 17 [(2, qb false), (37, qb false), (36, .tup []), (35, .tup []), (34, .tup []), (33, .tup []), (32, qb false), (31, qb false), (30, .tup []), (29, .tup []), (28, .tup []), (27, .tup []), (26, qb false), (25, qb false), (24, .tup []), (23, .tup []), (22, .tup [])] [] (.thenN (.ret .fn))

def F8 (n : Nat) (a0 : Note) : Option Bool :=
  F8_l4 n a0 (n + 8) 0
theorem F8_ok (n : Nat) (a0 : Note) : ∀ r, F8 n a0 = some r → D 8 [.agg [li .i64 a0.From, li .i64 a0.Beat, vw Thing.cod a0.Moved, vw Hand.cod a0.Hands, vw Thing.cod a0.Given, vw Command.cod a0.Watch]] [] = some (F8_e r) := by
  refine fn_to (D := D) (n := n + 8) (nt := 38) (rs := pc8_r) (c := pc8_c26) (L := [(0, .agg [lj a0.From, lj a0.Beat, vw Thing.cod a0.Moved, vw Hand.cod a0.Hands, vw Thing.cod a0.Given, vw Command.cod a0.Watch])]) (M := []) (k := 0) rfl rfl rfl rfl rfl rfl rfl ?_
  unfold F8
  refine Sim.sr 2 [(2, qb false), (1, qp 1 0)] [(1, some (.cells [lj a0.From, lj a0.Beat, vw Thing.cod a0.Moved, vw Hand.cod a0.Hands, vw Thing.cod a0.Given, vw Command.cod a0.Watch]))] (.seq (.sr 1 [(3, qj 0)] [] (.block (.loop (.pr [1, 3] [1] [] [(1, qp 1 0), (3, qj 0)] [(1, some (.cells [lj a0.From, lj a0.Beat, vw Thing.cod a0.Moved, vw Hand.cod a0.Hands, vw Thing.cod a0.Given, vw Command.cod a0.Watch]))] ?_)))))
  exact F8_l4_ok n a0 (n + 8) 0


-- 5: vedette/vedettelaw17.NoteSpoils
def F5_e : Bool → PV × List Ob := fun r => (.one (lb r), [])
def F5_j6 (n : Nat) (a0 : Note) (i4 : Int) (i5 : Int) : Option Bool :=
    (F11 n (Note.mk i4 i5 a0.Moved a0.Hands a0.Given a0.Watch) 3).bind fun (r7 : Bool) =>
    if !(r7) then
      (F12 n a0 (Note.mk i4 i5 a0.Moved a0.Hands a0.Given a0.Watch)).bind fun (r8 : Bool) =>
      if !(r8) then
        (F11 n a0 4).bind fun (r9 : Bool) =>
        some r9
      else
        some false
    else
      some false
theorem F5_j6_ok (n : Nat) (a0 : Note) (i4 : Int) (i5 : Int) : Sim Try.prog D (n + 8) pc5_c47 [(2, qp 2 0), (5, qp 5 0)] [(2, some (.cells [lj a0.From, lj a0.Beat, vw Thing.cod a0.Moved, vw Hand.cod a0.Hands, vw Thing.cod a0.Given, vw Command.cod a0.Watch])), (5, some (.cells [lj i4, lj i5, vw Thing.cod a0.Moved, vw Hand.cod a0.Hands, vw Thing.cod a0.Given, vw Command.cod a0.Watch]))] (F5_j6 n a0 i4 i5) (QF false pc5_r 0 F5_e) := by
    unfold F5_j6
    refine Sim.seq (.rg [(2, qp 2 0), (5, qp 5 0)] [(2, some (.cells [lj a0.From, lj a0.Beat, vw Thing.cod a0.Moved, vw Hand.cod a0.Hands, vw Thing.cod a0.Given, vw Command.cod a0.Watch])), (5, some (.cells [lj i4, lj i5, vw Thing.cod a0.Moved, vw Hand.cod a0.Hands, vw Thing.cod a0.Given, vw Command.cod a0.Watch]))] (.rn 1 [(75, .agg [lj i4, lj i5, vw Thing.cod a0.Moved, vw Hand.cod a0.Hands, vw Thing.cod a0.Given, vw Command.cod a0.Watch])] [] (.bind (og := F11 n (Note.mk i4 i5 a0.Moved a0.Hands a0.Given a0.Watch) 3) ⟨some 76, POp.gcall false false [100021, 100037, 100050, 100061, 100070, 300000, 300001, 300002, 300003, 300004, 300005, 300006, 300007] [[(2, 11), (3, 2), (4, 11), (5, 22)], []] 11 [Operand.tmp 75, Operand.const (Value.int IntKind.i64 3)], none, []⟩ (fun r7 => [(76, qb r7)]) (fun r7 => []) (by kernel_rfl) (fun r7 hr => pOp_eff (by kernel_rfl) (by kernel_rfl) (eff_gcall (ks := []) (rks := []) (new := []) (ARGS := [.agg [lj i4, lj i5, vw Thing.cod a0.Moved, vw Hand.cod a0.Hands, vw Thing.cod a0.Given, vw Command.cod a0.Watch], qj 3]) (args1 := [.agg [lj i4, lj i5, vw Thing.cod a0.Moved, vw Hand.cod a0.Hands, vw Thing.cod a0.Given, vw Command.cod a0.Watch], qj 3]) (args2 := [.agg [lj i4, lj i5, vw Thing.cod a0.Moved, vw Hand.cod a0.Hands, vw Thing.cod a0.Given, vw Command.cod a0.Watch], qj 3]) (os := []) (os' := []) (os1 := []) (res := qb r7) (res1 := qb r7) (r := qb r7) (N := []) (by kernel_rfl) (readA_ow (readA_agg (by kernel_rfl) (readA_keep (by kernel_rfl) (readA_nil)))) (by kernel_rfl) (by kernel_rfl) (by kernel_rfl) (by kernel_rfl) (F11_ok n (Note.mk i4 i5 a0.Moved a0.Hands a0.Given a0.Watch) 3 r7 hr) (by kernel_rfl) (by kernel_rfl) (by kernel_rfl) rfl (by kernel_rfl) (by kernel_rfl) (by kernel_rfl))) (fun r7 => ?_))))
    refine SimI.rn 2 [(78, qb (!(r7))), (77, qb (!(r7)))] [] (.split 78 (!(r7)) (by kernel_rfl) ?_ ?_)
    · refine SimI.rn 2 [(80, .agg [lj i4, lj i5, vw Thing.cod a0.Moved, vw Hand.cod a0.Hands, vw Thing.cod a0.Given, vw Command.cod a0.Watch]), (79, .agg [lj a0.From, lj a0.Beat, vw Thing.cod a0.Moved, vw Hand.cod a0.Hands, vw Thing.cod a0.Given, vw Command.cod a0.Watch])] [] (.bind (og := F12 n a0 (Note.mk i4 i5 a0.Moved a0.Hands a0.Given a0.Watch)) ⟨some 81, POp.gcall false false [100021, 100037, 100050, 100061, 100070, 300000, 300001, 300002, 300003, 300004, 300005, 300006, 300007] [[(2, 11), (3, 2), (4, 11), (5, 22)], [(2, 11), (3, 2), (4, 11), (5, 22)]] 12 [Operand.tmp 79, Operand.tmp 80], some (78, true), []⟩ (fun r8 => [(81, qb r8)]) (fun r8 => []) (by kernel_rfl) (fun r8 hr => pOp_eff (by kernel_rfl) (by kernel_rfl) (eff_gcall (ks := []) (rks := []) (new := []) (ARGS := [.agg [lj a0.From, lj a0.Beat, vw Thing.cod a0.Moved, vw Hand.cod a0.Hands, vw Thing.cod a0.Given, vw Command.cod a0.Watch], .agg [lj i4, lj i5, vw Thing.cod a0.Moved, vw Hand.cod a0.Hands, vw Thing.cod a0.Given, vw Command.cod a0.Watch]]) (args1 := [.agg [lj a0.From, lj a0.Beat, vw Thing.cod a0.Moved, vw Hand.cod a0.Hands, vw Thing.cod a0.Given, vw Command.cod a0.Watch], .agg [lj i4, lj i5, vw Thing.cod a0.Moved, vw Hand.cod a0.Hands, vw Thing.cod a0.Given, vw Command.cod a0.Watch]]) (args2 := [.agg [lj a0.From, lj a0.Beat, vw Thing.cod a0.Moved, vw Hand.cod a0.Hands, vw Thing.cod a0.Given, vw Command.cod a0.Watch], .agg [lj i4, lj i5, vw Thing.cod a0.Moved, vw Hand.cod a0.Hands, vw Thing.cod a0.Given, vw Command.cod a0.Watch]]) (os := []) (os' := []) (os1 := []) (res := qb r8) (res1 := qb r8) (r := qb r8) (N := []) (by kernel_rfl) (readA_ow (readA_agg (by kernel_rfl) (readA_agg (by kernel_rfl) (readA_nil)))) (by kernel_rfl) (by kernel_rfl) (by kernel_rfl) (by kernel_rfl) (F12_ok n a0 (Note.mk i4 i5 a0.Moved a0.Hands a0.Given a0.Watch) r8 hr) (by kernel_rfl) (by kernel_rfl) (by kernel_rfl) rfl (by kernel_rfl) (by kernel_rfl) (by kernel_rfl))) (fun r8 => ?_))
      refine SimI.rn 3 [(84, qb (!(r8))), (83, qb (!(r8))), (82, qb (!(r8)))] [] (.split 84 (!(r8)) (by kernel_rfl) ?_ ?_)
      · refine SimI.rn 1 [(85, .agg [lj a0.From, lj a0.Beat, vw Thing.cod a0.Moved, vw Hand.cod a0.Hands, vw Thing.cod a0.Given, vw Command.cod a0.Watch])] [] (.cl 86 true [[(2, 11), (3, 2), (4, 11), (5, 22)], []] 11 [Operand.tmp 85, Operand.const (Value.int IntKind.i64 4)] (some (84, true)) (fun r9 => qb r9) [.agg [lj a0.From, lj a0.Beat, vw Thing.cod a0.Moved, vw Hand.cod a0.Hands, vw Thing.cod a0.Given, vw Command.cod a0.Watch], qj 4] (F11_ok n a0 4) (fun r9 => ?_))
        exact SimI.rd 2 [(4, qb r9), (87, qb r9)] [] (.thenN (.ret .fn))
      · exact SimI.rd 4 [(4, qb false), (87, qb false), (86, .tup []), (85, .tup [])] [] (.thenN (.ret .fn))
    · exact SimI.rd 10 [(4, qb false), (87, qb false), (86, .tup []), (85, .tup []), (84, qb false), (83, qb false), (82, .tup []), (81, .tup []), (80, .tup []), (79, .tup [])] [] (.thenN (.ret .fn))

def F5 (n : Nat) (a0 : Note) (a1 : Int) : Option Bool :=
  ((some true)).bind fun (r1 : Bool) =>
  if !(r1) then
    some false
  else
    (F8 n a0).bind fun (r2 : Bool) =>
    if !(r2) then
      some true
    else
      (F11 n a0 3).bind fun (r3 : Bool) =>
      if !(r3) then
        some true
      else
        if (Int.tmod a1 7) == 0 then
          F5_j6 n a0 3 a0.Beat
        else
          if (Int.tmod a1 7) == 1 then
            F5_j6 n a0 a0.From (-1)
          else
            if (Int.tmod a1 7) == 2 then
              if (a0.Hands).length * 16 ≤ maxCells ∧ (a0.Hands).length ≤ maxCells then
                if ((a0.Hands).length + 1) * 16 ≤ maxCells ∧ (a0.Hands).length + 1 ≤ maxCells then
                  (F11 n (Note.mk a0.From a0.Beat a0.Moved (a0.Hands ++ [(Hand.mk 16 (Int.tmod (IntKind.wrap .i64 (a0.From + 1)) 3))]) a0.Given a0.Watch) 3).bind fun (r10 : Bool) =>
                  if !(r10) then
                    (F12 n a0 (Note.mk a0.From a0.Beat a0.Moved (a0.Hands ++ [(Hand.mk 16 (Int.tmod (IntKind.wrap .i64 (a0.From + 1)) 3))]) a0.Given a0.Watch)).bind fun (r11 : Bool) =>
                    if !(r11) then
                      (F11 n a0 4).bind fun (r12 : Bool) =>
                      some r12
                    else
                      some false
                  else
                    some false
                else none
              else none
            else
              if (Int.tmod a1 7) == 3 then
                if (a0.Hands).length * 16 ≤ maxCells ∧ (a0.Hands).length ≤ maxCells then
                  if ((a0.Hands).length + 1) * 16 ≤ maxCells ∧ (a0.Hands).length + 1 ≤ maxCells then
                    (F11 n (Note.mk a0.From a0.Beat a0.Moved (a0.Hands ++ [(Hand.mk 15 a0.From)]) a0.Given a0.Watch) 3).bind fun (r13 : Bool) =>
                    if !(r13) then
                      (F12 n a0 (Note.mk a0.From a0.Beat a0.Moved (a0.Hands ++ [(Hand.mk 15 a0.From)]) a0.Given a0.Watch)).bind fun (r14 : Bool) =>
                      if !(r14) then
                        (F11 n a0 4).bind fun (r15 : Bool) =>
                        some r15
                      else
                        some false
                    else
                      some false
                  else none
                else none
              else
                if (Int.tmod a1 7) == 4 then
                  if (a0.Watch).length * 216 ≤ maxCells ∧ (a0.Watch).length ≤ maxCells then
                    if ((a0.Watch).length + 1) * 216 ≤ maxCells ∧ (a0.Watch).length + 1 ≤ maxCells then
                      (F11 n (Note.mk a0.From a0.Beat a0.Moved a0.Hands a0.Given (a0.Watch ++ [(Command.mk 1 0 0 0 (Point.mk 0 0) (A4.mk (Field.mk 0 ByteArray.empty) (Field.mk 0 ByteArray.empty) (Field.mk 0 ByteArray.empty) (Field.mk 0 ByteArray.empty)) (Field.mk 0 ByteArray.empty) 0 0 (Rect.mk 0 0 0 0))])) 3).bind fun (r16 : Bool) =>
                      if !(r16) then
                        (F12 n a0 (Note.mk a0.From a0.Beat a0.Moved a0.Hands a0.Given (a0.Watch ++ [(Command.mk 1 0 0 0 (Point.mk 0 0) (A4.mk (Field.mk 0 ByteArray.empty) (Field.mk 0 ByteArray.empty) (Field.mk 0 ByteArray.empty) (Field.mk 0 ByteArray.empty)) (Field.mk 0 ByteArray.empty) 0 0 (Rect.mk 0 0 0 0))]))).bind fun (r17 : Bool) =>
                        if !(r17) then
                          (F11 n a0 4).bind fun (r18 : Bool) =>
                          some r18
                        else
                          some false
                      else
                        some false
                    else none
                  else none
                else
                  if (Int.tmod a1 7) == 5 then
                    if (a0.Moved).length * 120 ≤ maxCells ∧ (a0.Moved).length ≤ maxCells then
                      if ((a0.Moved).length + 1) * 120 ≤ maxCells ∧ (a0.Moved).length + 1 ≤ maxCells then
                        (F11 n (Note.mk a0.From a0.Beat (a0.Moved ++ [(Thing.mk (-1) (Point.mk 0 0) (A4.mk (Field.mk 0 ByteArray.empty) (Field.mk 0 ByteArray.empty) (Field.mk 0 ByteArray.empty) (Field.mk 0 ByteArray.empty)))]) a0.Hands a0.Given a0.Watch) 3).bind fun (r19 : Bool) =>
                        if !(r19) then
                          (F12 n a0 (Note.mk a0.From a0.Beat (a0.Moved ++ [(Thing.mk (-1) (Point.mk 0 0) (A4.mk (Field.mk 0 ByteArray.empty) (Field.mk 0 ByteArray.empty) (Field.mk 0 ByteArray.empty) (Field.mk 0 ByteArray.empty)))]) a0.Hands a0.Given a0.Watch)).bind fun (r20 : Bool) =>
                          if !(r20) then
                            (F11 n a0 4).bind fun (r21 : Bool) =>
                            some r21
                          else
                            some false
                        else
                          some false
                      else none
                    else none
                  else
                    if (a0.Given).length * 120 ≤ maxCells ∧ (a0.Given).length ≤ maxCells then
                      if ((a0.Given).length + 1) * 120 ≤ maxCells ∧ (a0.Given).length + 1 ≤ maxCells then
                        (F11 n (Note.mk a0.From a0.Beat a0.Moved a0.Hands (a0.Given ++ [(Thing.mk 1000000 (Point.mk 64 0) (A4.mk (Field.mk 0 ByteArray.empty) (Field.mk 0 ByteArray.empty) (Field.mk 0 ByteArray.empty) (Field.mk 0 ByteArray.empty)))]) a0.Watch) 3).bind fun (r22 : Bool) =>
                        if !(r22) then
                          (F12 n a0 (Note.mk a0.From a0.Beat a0.Moved a0.Hands (a0.Given ++ [(Thing.mk 1000000 (Point.mk 64 0) (A4.mk (Field.mk 0 ByteArray.empty) (Field.mk 0 ByteArray.empty) (Field.mk 0 ByteArray.empty) (Field.mk 0 ByteArray.empty)))]) a0.Watch)).bind fun (r23 : Bool) =>
                          if !(r23) then
                            (F11 n a0 4).bind fun (r24 : Bool) =>
                            some r24
                          else
                            some false
                        else
                          some false
                      else none
                    else none
theorem F5_ok (n : Nat) (a0 : Note) (a1 : Int) : ∀ r, F5 n a0 a1 = some r → D 5 [.agg [li .i64 a0.From, li .i64 a0.Beat, vw Thing.cod a0.Moved, vw Hand.cod a0.Hands, vw Thing.cod a0.Given, vw Command.cod a0.Watch], .one (li .u8 a1)] [] = some (F5_e r) := by
  refine fn_to (D := D) (n := n + 8) (nt := 88) (rs := pc5_r) (c := pc5_c52) (L := [(0, .agg [lj a0.From, lj a0.Beat, vw Thing.cod a0.Moved, vw Hand.cod a0.Hands, vw Thing.cod a0.Given, vw Command.cod a0.Watch]), (1, .one (li .u8 a1))]) (M := []) (k := 0) rfl rfl rfl rfl rfl rfl rfl ?_
  unfold F5
  refine Sim.sr 2 [(4, qb false), (2, qp 2 0)] [(2, some (.cells [lj a0.From, lj a0.Beat, vw Thing.cod a0.Moved, vw Hand.cod a0.Hands, vw Thing.cod a0.Given, vw Command.cod a0.Watch]))] (.seq (.seq (.region0 (.cl 6 true [] 7 [] none (fun r1 => qb r1) [] (F7_ok n) (fun r1 => ?_)))))
  refine SimI.rd 1 [(7, qb (!(r1)))] [] (.thenN (.cond (!(r1)) (by kernel_rfl) ?_ ?_))
  · exact Sim.sr 1 [(4, qb false)] [] (.ret (.thenR .fn))
  · refine Sim.skip (.thenN (.seq (.st 1 [(8, .agg [lj a0.From, lj a0.Beat, vw Thing.cod a0.Moved, vw Hand.cod a0.Hands, vw Thing.cod a0.Given, vw Command.cod a0.Watch])] [] (.cl 9 true [[(2, 11), (3, 2), (4, 11), (5, 22)]] 8 [Operand.tmp 8] none (fun r2 => qb r2) [.agg [lj a0.From, lj a0.Beat, vw Thing.cod a0.Moved, vw Hand.cod a0.Hands, vw Thing.cod a0.Given, vw Command.cod a0.Watch]] (F8_ok n a0) (fun r2 => ?_)))))
    refine SimI.rn 2 [(11, qb (!(r2))), (10, qb (!(r2)))] [] (.split 11 (!(r2)) (by kernel_rfl) ?_ ?_)
    · exact SimI.rd 4 [(15, qb true), (14, .tup []), (13, .tup []), (12, .tup [])] [] (.thenN (.condT (by kernel_rfl) (.sr 1 [(4, qb true)] [] (.ret (.thenR .fn)))))
    · refine SimI.rn 1 [(12, .agg [lj a0.From, lj a0.Beat, vw Thing.cod a0.Moved, vw Hand.cod a0.Hands, vw Thing.cod a0.Given, vw Command.cod a0.Watch])] [] (.cl 13 true [[(2, 11), (3, 2), (4, 11), (5, 22)], []] 11 [Operand.tmp 12, Operand.const (Value.int IntKind.i64 3)] (some (11, false)) (fun r3 => qb r3) [.agg [lj a0.From, lj a0.Beat, vw Thing.cod a0.Moved, vw Hand.cod a0.Hands, vw Thing.cod a0.Given, vw Command.cod a0.Watch], qj 3] (F11_ok n a0 3) (fun r3 => ?_))
      refine SimI.rd 2 [(15, qb (!(r3))), (14, qb (!(r3)))] [] (.thenN (.cond (!(r3)) (by kernel_rfl) ?_ ?_))
      · exact Sim.sr 1 [(4, qb true)] [] (.ret (.thenR .fn))
      · refine Sim.skip (.thenN (.sr 3 [(5, qp 5 0), (16, .agg [lj a0.From, lj a0.Beat, vw Thing.cod a0.Moved, vw Hand.cod a0.Hands, vw Thing.cod a0.Given, vw Command.cod a0.Watch])] [(5, some (.cells [lj a0.From, lj a0.Beat, vw Thing.cod a0.Moved, vw Hand.cod a0.Hands, vw Thing.cod a0.Given, vw Command.cod a0.Watch])), (5, some (.cells [lj 0, lj 0, lnil, lnil, lnil, lnil]))] (.seq (.sr 2 [(18, .one (li .u8 (Int.tmod a1 7))), (17, .one (li .u8 a1))] [] (.block (.sr 2 [(27, qb ((Int.tmod a1 7) == 0)), (28, qb ((Int.tmod a1 7) == 0))] [] (.cond ((Int.tmod a1 7) == 0) (by kernel_rfl) ?_ ?_)))))))
        · refine Sim.region0 (.rd 2 [(29, qp 5 0)] [(5, some (.cells [lj 3, lj a0.Beat, vw Thing.cod a0.Moved, vw Hand.cod a0.Hands, vw Thing.cod a0.Given, vw Command.cod a0.Watch]))] (.blockN (.thenN (.pr [2, 5] [2, 5, 100021, 100037, 100050, 100061, 100070] [] [(2, qp 2 0), (5, qp 5 0)] [(2, some (.cells [lj a0.From, lj a0.Beat, vw Thing.cod a0.Moved, vw Hand.cod a0.Hands, vw Thing.cod a0.Given, vw Command.cod a0.Watch])), (5, some (.cells [lj 3, lj a0.Beat, vw Thing.cod a0.Moved, vw Hand.cod a0.Hands, vw Thing.cod a0.Given, vw Command.cod a0.Watch]))] ?_))))
          exact F5_j6_ok n a0 3 a0.Beat
        · refine Sim.sr 2 [(30, qb ((Int.tmod a1 7) == 1)), (31, qb ((Int.tmod a1 7) == 1))] [] (.cond ((Int.tmod a1 7) == 1) (by kernel_rfl) ?_ ?_)
          · refine Sim.region0 (.rd 2 [(32, qp 5 1)] [(5, some (.cells [lj a0.From, lj (-1), vw Thing.cod a0.Moved, vw Hand.cod a0.Hands, vw Thing.cod a0.Given, vw Command.cod a0.Watch]))] (.blockN (.thenN (.pr [2, 5] [2, 5, 100021, 100037, 100050, 100061, 100070] [] [(2, qp 2 0), (5, qp 5 0)] [(2, some (.cells [lj a0.From, lj a0.Beat, vw Thing.cod a0.Moved, vw Hand.cod a0.Hands, vw Thing.cod a0.Given, vw Command.cod a0.Watch])), (5, some (.cells [lj a0.From, lj (-1), vw Thing.cod a0.Moved, vw Hand.cod a0.Hands, vw Thing.cod a0.Given, vw Command.cod a0.Watch]))] ?_))))
            exact F5_j6_ok n a0 a0.From (-1)
          · refine Sim.sr 2 [(33, qb ((Int.tmod a1 7) == 2)), (34, qb ((Int.tmod a1 7) == 2))] [] (.cond ((Int.tmod a1 7) == 2) (by kernel_rfl) ?_ ?_)
            · refine Sim.region0 (.rn 2 [(36, .one (vw Hand.cod a0.Hands)), (35, qp 2 3)] [] (.guard (c := (a0.Hands).length * 16 ≤ maxCells ∧ (a0.Hands).length ≤ maxCells) ⟨some 37, POp.app 100037 44 2 16 (Operand.const (Value.slice none 0 0)) (Operand.tmp 36), none, [(36, Hint.imm)]⟩ [(37, .one (.osl 100037 0 0 (a0.Hands).length))] [(100037, some (.arr 44 Hand.cod.sz 0 (a0.Hands).length (getOf Hand.cod a0.Hands)))] (by kernel_rfl) (fun hc => pOp_eff (by kernel_rfl) (by kernel_rfl) (eff_appNL (c := Hand.cod) (l := a0.Hands) (by kernel_rfl) (by kernel_rfl) (by kernel_rfl) (by kernel_rfl) (by kernel_rfl) hc)) (.rn 6 [(43, .one (vw Hand.cod [(Hand.mk 16 (Int.tmod (IntKind.wrap .i64 (a0.From + 1)) 3))])), (42, .agg [lj 16, lj (Int.tmod (IntKind.wrap .i64 (a0.From + 1)) 3)]), (41, qj (Int.tmod (IntKind.wrap .i64 (a0.From + 1)) 3)), (40, qj (IntKind.wrap .i64 (a0.From + 1))), (39, qj a0.From), (38, qp 2 0)] [] (.guard (c := ((a0.Hands).length + 1) * 16 ≤ maxCells ∧ (a0.Hands).length + 1 ≤ maxCells) ⟨some 44, POp.app 100037 44 2 16 (Operand.tmp 37) (Operand.tmp 43), none, [(37, Hint.obj 100037), (43, Hint.imm)]⟩ [(44, .one (.osl 100037 (0 + 1) 0 ((a0.Hands ++ [(Hand.mk 16 (Int.tmod (IntKind.wrap .i64 (a0.From + 1)) 3))])).length))] [(100037, some (.arr 44 Hand.cod.sz (0 + 1) ((a0.Hands ++ [(Hand.mk 16 (Int.tmod (IntKind.wrap .i64 (a0.From + 1)) 3))])).length (getOf Hand.cod (a0.Hands ++ [(Hand.mk 16 (Int.tmod (IntKind.wrap .i64 (a0.From + 1)) 3))]))))] (by kernel_rfl) (fun hc => pOp_eff (by kernel_rfl) (by kernel_rfl) (eff_appO (c := Hand.cod) (g := 0) (l := a0.Hands) (a := (Hand.mk 16 (Int.tmod (IntKind.wrap .i64 (a0.From + 1)) 3))) (by kernel_rfl) (by kernel_rfl) (by kernel_rfl) (by kernel_rfl) hc)) (.rd 2 [(45, qp 5 3)] [(5, some (.cells [lj a0.From, lj a0.Beat, vw Thing.cod a0.Moved, .osl 100037 (0 + 1) 0 ((a0.Hands ++ [(Hand.mk 16 (Int.tmod (IntKind.wrap .i64 (a0.From + 1)) 3))])).length, vw Thing.cod a0.Given, vw Command.cod a0.Watch]))] (.blockN (.thenN (.seq (.rg [(2, qp 2 0), (5, qp 5 0)] [(2, some (.cells [lj a0.From, lj a0.Beat, vw Thing.cod a0.Moved, vw Hand.cod a0.Hands, vw Thing.cod a0.Given, vw Command.cod a0.Watch])), (5, some (.cells [lj a0.From, lj a0.Beat, vw Thing.cod a0.Moved, .osl 100037 0 0 ((a0.Hands ++ [(Hand.mk 16 (Int.tmod (IntKind.wrap .i64 (a0.From + 1)) 3))])).length, vw Thing.cod a0.Given, vw Command.cod a0.Watch])), (100037, some (.arr 44 Hand.cod.sz 0 ((a0.Hands ++ [(Hand.mk 16 (Int.tmod (IntKind.wrap .i64 (a0.From + 1)) 3))])).length (getOf Hand.cod (a0.Hands ++ [(Hand.mk 16 (Int.tmod (IntKind.wrap .i64 (a0.From + 1)) 3))]))))] (.rn 1 [(75, .agg [lj a0.From, lj a0.Beat, vw Thing.cod a0.Moved, .osl 100037 0 0 ((a0.Hands ++ [(Hand.mk 16 (Int.tmod (IntKind.wrap .i64 (a0.From + 1)) 3))])).length, vw Thing.cod a0.Given, vw Command.cod a0.Watch])] [] (.bind (og := F11 n (Note.mk a0.From a0.Beat a0.Moved (a0.Hands ++ [(Hand.mk 16 (Int.tmod (IntKind.wrap .i64 (a0.From + 1)) 3))]) a0.Given a0.Watch) 3) ⟨some 76, POp.gcall false false [100021, 100037, 100050, 100061, 100070, 300000, 300001, 300002, 300003, 300004, 300005, 300006, 300007] [[(2, 11), (3, 2), (4, 11), (5, 22)], []] 11 [Operand.tmp 75, Operand.const (Value.int IntKind.i64 3)], none, []⟩ (fun r10 => [(76, qb r10)]) (fun r10 => []) (by kernel_rfl) (fun r10 hr => pOp_eff (by kernel_rfl) (by kernel_rfl) (eff_gcall (ks := []) (rks := [100037]) (new := []) (ARGS := [.agg [lj a0.From, lj a0.Beat, vw Thing.cod a0.Moved, .osl 100037 0 0 ((a0.Hands ++ [(Hand.mk 16 (Int.tmod (IntKind.wrap .i64 (a0.From + 1)) 3))])).length, vw Thing.cod a0.Given, vw Command.cod a0.Watch], qj 3]) (args1 := [.agg [lj a0.From, lj a0.Beat, vw Thing.cod a0.Moved, vw Hand.cod (a0.Hands ++ [(Hand.mk 16 (Int.tmod (IntKind.wrap .i64 (a0.From + 1)) 3))]), vw Thing.cod a0.Given, vw Command.cod a0.Watch], qj 3]) (args2 := [.agg [lj a0.From, lj a0.Beat, vw Thing.cod a0.Moved, vw Hand.cod (a0.Hands ++ [(Hand.mk 16 (Int.tmod (IntKind.wrap .i64 (a0.From + 1)) 3))]), vw Thing.cod a0.Given, vw Command.cod a0.Watch], qj 3]) (os := []) (os' := []) (os1 := []) (res := qb r10) (res1 := qb r10) (r := qb r10) (N := []) (by kernel_rfl) (readA_ow (readA_aggO (readLs_keep (by kernel_rfl) (readLs_keep (by kernel_rfl) (readLs_keep (by kernel_rfl) (readLs_own (c := Hand.cod) (k := 100037) (g := 0) (el := 44) (l := (a0.Hands ++ [(Hand.mk 16 (Int.tmod (IntKind.wrap .i64 (a0.From + 1)) 3))])) (by kernel_rfl) (readLs_keep (by kernel_rfl) (readLs_keep (by kernel_rfl) (readLs_nil))))))) (readA_keep (by kernel_rfl) (readA_nil)))) (by kernel_rfl) (by kernel_rfl) (by kernel_rfl) (by kernel_rfl) (F11_ok n (Note.mk a0.From a0.Beat a0.Moved (a0.Hands ++ [(Hand.mk 16 (Int.tmod (IntKind.wrap .i64 (a0.From + 1)) 3))]) a0.Given a0.Watch) 3 r10 hr) (by kernel_rfl) (by kernel_rfl) (by kernel_rfl) rfl (by kernel_rfl) (by kernel_rfl) (by kernel_rfl))) (fun r10 => ?_))))))))))))
              refine SimI.rn 2 [(78, qb (!(r10))), (77, qb (!(r10)))] [] (.split 78 (!(r10)) (by kernel_rfl) ?_ ?_)
              · refine SimI.rn 2 [(80, .agg [lj a0.From, lj a0.Beat, vw Thing.cod a0.Moved, .osl 100037 0 0 ((a0.Hands ++ [(Hand.mk 16 (Int.tmod (IntKind.wrap .i64 (a0.From + 1)) 3))])).length, vw Thing.cod a0.Given, vw Command.cod a0.Watch]), (79, .agg [lj a0.From, lj a0.Beat, vw Thing.cod a0.Moved, vw Hand.cod a0.Hands, vw Thing.cod a0.Given, vw Command.cod a0.Watch])] [] (.bind (og := F12 n a0 (Note.mk a0.From a0.Beat a0.Moved (a0.Hands ++ [(Hand.mk 16 (Int.tmod (IntKind.wrap .i64 (a0.From + 1)) 3))]) a0.Given a0.Watch)) ⟨some 81, POp.gcall false false [100021, 100037, 100050, 100061, 100070, 300000, 300001, 300002, 300003, 300004, 300005, 300006, 300007] [[(2, 11), (3, 2), (4, 11), (5, 22)], [(2, 11), (3, 2), (4, 11), (5, 22)]] 12 [Operand.tmp 79, Operand.tmp 80], some (78, true), []⟩ (fun r11 => [(81, qb r11)]) (fun r11 => []) (by kernel_rfl) (fun r11 hr => pOp_eff (by kernel_rfl) (by kernel_rfl) (eff_gcall (ks := []) (rks := [100037]) (new := []) (ARGS := [.agg [lj a0.From, lj a0.Beat, vw Thing.cod a0.Moved, vw Hand.cod a0.Hands, vw Thing.cod a0.Given, vw Command.cod a0.Watch], .agg [lj a0.From, lj a0.Beat, vw Thing.cod a0.Moved, .osl 100037 0 0 ((a0.Hands ++ [(Hand.mk 16 (Int.tmod (IntKind.wrap .i64 (a0.From + 1)) 3))])).length, vw Thing.cod a0.Given, vw Command.cod a0.Watch]]) (args1 := [.agg [lj a0.From, lj a0.Beat, vw Thing.cod a0.Moved, vw Hand.cod a0.Hands, vw Thing.cod a0.Given, vw Command.cod a0.Watch], .agg [lj a0.From, lj a0.Beat, vw Thing.cod a0.Moved, vw Hand.cod (a0.Hands ++ [(Hand.mk 16 (Int.tmod (IntKind.wrap .i64 (a0.From + 1)) 3))]), vw Thing.cod a0.Given, vw Command.cod a0.Watch]]) (args2 := [.agg [lj a0.From, lj a0.Beat, vw Thing.cod a0.Moved, vw Hand.cod a0.Hands, vw Thing.cod a0.Given, vw Command.cod a0.Watch], .agg [lj a0.From, lj a0.Beat, vw Thing.cod a0.Moved, vw Hand.cod (a0.Hands ++ [(Hand.mk 16 (Int.tmod (IntKind.wrap .i64 (a0.From + 1)) 3))]), vw Thing.cod a0.Given, vw Command.cod a0.Watch]]) (os := []) (os' := []) (os1 := []) (res := qb r11) (res1 := qb r11) (r := qb r11) (N := []) (by kernel_rfl) (readA_ow (readA_agg (by kernel_rfl) (readA_aggO (readLs_keep (by kernel_rfl) (readLs_keep (by kernel_rfl) (readLs_keep (by kernel_rfl) (readLs_own (c := Hand.cod) (k := 100037) (g := 0) (el := 44) (l := (a0.Hands ++ [(Hand.mk 16 (Int.tmod (IntKind.wrap .i64 (a0.From + 1)) 3))])) (by kernel_rfl) (readLs_keep (by kernel_rfl) (readLs_keep (by kernel_rfl) (readLs_nil))))))) (readA_nil)))) (by kernel_rfl) (by kernel_rfl) (by kernel_rfl) (by kernel_rfl) (F12_ok n a0 (Note.mk a0.From a0.Beat a0.Moved (a0.Hands ++ [(Hand.mk 16 (Int.tmod (IntKind.wrap .i64 (a0.From + 1)) 3))]) a0.Given a0.Watch) r11 hr) (by kernel_rfl) (by kernel_rfl) (by kernel_rfl) rfl (by kernel_rfl) (by kernel_rfl) (by kernel_rfl))) (fun r11 => ?_))
                refine SimI.rn 3 [(84, qb (!(r11))), (83, qb (!(r11))), (82, qb (!(r11)))] [] (.split 84 (!(r11)) (by kernel_rfl) ?_ ?_)
                · refine SimI.rn 1 [(85, .agg [lj a0.From, lj a0.Beat, vw Thing.cod a0.Moved, vw Hand.cod a0.Hands, vw Thing.cod a0.Given, vw Command.cod a0.Watch])] [] (.cl 86 true [[(2, 11), (3, 2), (4, 11), (5, 22)], []] 11 [Operand.tmp 85, Operand.const (Value.int IntKind.i64 4)] (some (84, true)) (fun r12 => qb r12) [.agg [lj a0.From, lj a0.Beat, vw Thing.cod a0.Moved, vw Hand.cod a0.Hands, vw Thing.cod a0.Given, vw Command.cod a0.Watch], qj 4] (F11_ok n a0 4) (fun r12 => ?_))
                  exact SimI.rd 2 [(4, qb r12), (87, qb r12)] [] (.thenN (.ret .fn))
                · exact SimI.rd 4 [(4, qb false), (87, qb false), (86, .tup []), (85, .tup [])] [] (.thenN (.ret .fn))
              · exact SimI.rd 10 [(4, qb false), (87, qb false), (86, .tup []), (85, .tup []), (84, qb false), (83, qb false), (82, .tup []), (81, .tup []), (80, .tup []), (79, .tup [])] [] (.thenN (.ret .fn))
            · refine Sim.sr 2 [(46, qb ((Int.tmod a1 7) == 3)), (47, qb ((Int.tmod a1 7) == 3))] [] (.cond ((Int.tmod a1 7) == 3) (by kernel_rfl) ?_ ?_)
              · refine Sim.region0 (.rn 2 [(49, .one (vw Hand.cod a0.Hands)), (48, qp 2 3)] [] (.guard (c := (a0.Hands).length * 16 ≤ maxCells ∧ (a0.Hands).length ≤ maxCells) ⟨some 50, POp.app 100050 44 2 16 (Operand.const (Value.slice none 0 0)) (Operand.tmp 49), none, [(49, Hint.imm)]⟩ [(50, .one (.osl 100050 0 0 (a0.Hands).length))] [(100050, some (.arr 44 Hand.cod.sz 0 (a0.Hands).length (getOf Hand.cod a0.Hands)))] (by kernel_rfl) (fun hc => pOp_eff (by kernel_rfl) (by kernel_rfl) (eff_appNL (c := Hand.cod) (l := a0.Hands) (by kernel_rfl) (by kernel_rfl) (by kernel_rfl) (by kernel_rfl) (by kernel_rfl) hc)) (.rn 4 [(54, .one (vw Hand.cod [(Hand.mk 15 a0.From)])), (53, .agg [lj 15, lj a0.From]), (52, qj a0.From), (51, qp 2 0)] [] (.guard (c := ((a0.Hands).length + 1) * 16 ≤ maxCells ∧ (a0.Hands).length + 1 ≤ maxCells) ⟨some 55, POp.app 100050 44 2 16 (Operand.tmp 50) (Operand.tmp 54), none, [(50, Hint.obj 100050), (54, Hint.imm)]⟩ [(55, .one (.osl 100050 (0 + 1) 0 ((a0.Hands ++ [(Hand.mk 15 a0.From)])).length))] [(100050, some (.arr 44 Hand.cod.sz (0 + 1) ((a0.Hands ++ [(Hand.mk 15 a0.From)])).length (getOf Hand.cod (a0.Hands ++ [(Hand.mk 15 a0.From)]))))] (by kernel_rfl) (fun hc => pOp_eff (by kernel_rfl) (by kernel_rfl) (eff_appO (c := Hand.cod) (g := 0) (l := a0.Hands) (a := (Hand.mk 15 a0.From)) (by kernel_rfl) (by kernel_rfl) (by kernel_rfl) (by kernel_rfl) hc)) (.rd 2 [(56, qp 5 3)] [(5, some (.cells [lj a0.From, lj a0.Beat, vw Thing.cod a0.Moved, .osl 100050 (0 + 1) 0 ((a0.Hands ++ [(Hand.mk 15 a0.From)])).length, vw Thing.cod a0.Given, vw Command.cod a0.Watch]))] (.blockN (.thenN (.seq (.rg [(2, qp 2 0), (5, qp 5 0)] [(2, some (.cells [lj a0.From, lj a0.Beat, vw Thing.cod a0.Moved, vw Hand.cod a0.Hands, vw Thing.cod a0.Given, vw Command.cod a0.Watch])), (5, some (.cells [lj a0.From, lj a0.Beat, vw Thing.cod a0.Moved, .osl 100050 0 0 ((a0.Hands ++ [(Hand.mk 15 a0.From)])).length, vw Thing.cod a0.Given, vw Command.cod a0.Watch])), (100050, some (.arr 44 Hand.cod.sz 0 ((a0.Hands ++ [(Hand.mk 15 a0.From)])).length (getOf Hand.cod (a0.Hands ++ [(Hand.mk 15 a0.From)]))))] (.rn 1 [(75, .agg [lj a0.From, lj a0.Beat, vw Thing.cod a0.Moved, .osl 100050 0 0 ((a0.Hands ++ [(Hand.mk 15 a0.From)])).length, vw Thing.cod a0.Given, vw Command.cod a0.Watch])] [] (.bind (og := F11 n (Note.mk a0.From a0.Beat a0.Moved (a0.Hands ++ [(Hand.mk 15 a0.From)]) a0.Given a0.Watch) 3) ⟨some 76, POp.gcall false false [100021, 100037, 100050, 100061, 100070, 300000, 300001, 300002, 300003, 300004, 300005, 300006, 300007] [[(2, 11), (3, 2), (4, 11), (5, 22)], []] 11 [Operand.tmp 75, Operand.const (Value.int IntKind.i64 3)], none, []⟩ (fun r13 => [(76, qb r13)]) (fun r13 => []) (by kernel_rfl) (fun r13 hr => pOp_eff (by kernel_rfl) (by kernel_rfl) (eff_gcall (ks := []) (rks := [100050]) (new := []) (ARGS := [.agg [lj a0.From, lj a0.Beat, vw Thing.cod a0.Moved, .osl 100050 0 0 ((a0.Hands ++ [(Hand.mk 15 a0.From)])).length, vw Thing.cod a0.Given, vw Command.cod a0.Watch], qj 3]) (args1 := [.agg [lj a0.From, lj a0.Beat, vw Thing.cod a0.Moved, vw Hand.cod (a0.Hands ++ [(Hand.mk 15 a0.From)]), vw Thing.cod a0.Given, vw Command.cod a0.Watch], qj 3]) (args2 := [.agg [lj a0.From, lj a0.Beat, vw Thing.cod a0.Moved, vw Hand.cod (a0.Hands ++ [(Hand.mk 15 a0.From)]), vw Thing.cod a0.Given, vw Command.cod a0.Watch], qj 3]) (os := []) (os' := []) (os1 := []) (res := qb r13) (res1 := qb r13) (r := qb r13) (N := []) (by kernel_rfl) (readA_ow (readA_aggO (readLs_keep (by kernel_rfl) (readLs_keep (by kernel_rfl) (readLs_keep (by kernel_rfl) (readLs_own (c := Hand.cod) (k := 100050) (g := 0) (el := 44) (l := (a0.Hands ++ [(Hand.mk 15 a0.From)])) (by kernel_rfl) (readLs_keep (by kernel_rfl) (readLs_keep (by kernel_rfl) (readLs_nil))))))) (readA_keep (by kernel_rfl) (readA_nil)))) (by kernel_rfl) (by kernel_rfl) (by kernel_rfl) (by kernel_rfl) (F11_ok n (Note.mk a0.From a0.Beat a0.Moved (a0.Hands ++ [(Hand.mk 15 a0.From)]) a0.Given a0.Watch) 3 r13 hr) (by kernel_rfl) (by kernel_rfl) (by kernel_rfl) rfl (by kernel_rfl) (by kernel_rfl) (by kernel_rfl))) (fun r13 => ?_))))))))))))
                refine SimI.rn 2 [(78, qb (!(r13))), (77, qb (!(r13)))] [] (.split 78 (!(r13)) (by kernel_rfl) ?_ ?_)
                · refine SimI.rn 2 [(80, .agg [lj a0.From, lj a0.Beat, vw Thing.cod a0.Moved, .osl 100050 0 0 ((a0.Hands ++ [(Hand.mk 15 a0.From)])).length, vw Thing.cod a0.Given, vw Command.cod a0.Watch]), (79, .agg [lj a0.From, lj a0.Beat, vw Thing.cod a0.Moved, vw Hand.cod a0.Hands, vw Thing.cod a0.Given, vw Command.cod a0.Watch])] [] (.bind (og := F12 n a0 (Note.mk a0.From a0.Beat a0.Moved (a0.Hands ++ [(Hand.mk 15 a0.From)]) a0.Given a0.Watch)) ⟨some 81, POp.gcall false false [100021, 100037, 100050, 100061, 100070, 300000, 300001, 300002, 300003, 300004, 300005, 300006, 300007] [[(2, 11), (3, 2), (4, 11), (5, 22)], [(2, 11), (3, 2), (4, 11), (5, 22)]] 12 [Operand.tmp 79, Operand.tmp 80], some (78, true), []⟩ (fun r14 => [(81, qb r14)]) (fun r14 => []) (by kernel_rfl) (fun r14 hr => pOp_eff (by kernel_rfl) (by kernel_rfl) (eff_gcall (ks := []) (rks := [100050]) (new := []) (ARGS := [.agg [lj a0.From, lj a0.Beat, vw Thing.cod a0.Moved, vw Hand.cod a0.Hands, vw Thing.cod a0.Given, vw Command.cod a0.Watch], .agg [lj a0.From, lj a0.Beat, vw Thing.cod a0.Moved, .osl 100050 0 0 ((a0.Hands ++ [(Hand.mk 15 a0.From)])).length, vw Thing.cod a0.Given, vw Command.cod a0.Watch]]) (args1 := [.agg [lj a0.From, lj a0.Beat, vw Thing.cod a0.Moved, vw Hand.cod a0.Hands, vw Thing.cod a0.Given, vw Command.cod a0.Watch], .agg [lj a0.From, lj a0.Beat, vw Thing.cod a0.Moved, vw Hand.cod (a0.Hands ++ [(Hand.mk 15 a0.From)]), vw Thing.cod a0.Given, vw Command.cod a0.Watch]]) (args2 := [.agg [lj a0.From, lj a0.Beat, vw Thing.cod a0.Moved, vw Hand.cod a0.Hands, vw Thing.cod a0.Given, vw Command.cod a0.Watch], .agg [lj a0.From, lj a0.Beat, vw Thing.cod a0.Moved, vw Hand.cod (a0.Hands ++ [(Hand.mk 15 a0.From)]), vw Thing.cod a0.Given, vw Command.cod a0.Watch]]) (os := []) (os' := []) (os1 := []) (res := qb r14) (res1 := qb r14) (r := qb r14) (N := []) (by kernel_rfl) (readA_ow (readA_agg (by kernel_rfl) (readA_aggO (readLs_keep (by kernel_rfl) (readLs_keep (by kernel_rfl) (readLs_keep (by kernel_rfl) (readLs_own (c := Hand.cod) (k := 100050) (g := 0) (el := 44) (l := (a0.Hands ++ [(Hand.mk 15 a0.From)])) (by kernel_rfl) (readLs_keep (by kernel_rfl) (readLs_keep (by kernel_rfl) (readLs_nil))))))) (readA_nil)))) (by kernel_rfl) (by kernel_rfl) (by kernel_rfl) (by kernel_rfl) (F12_ok n a0 (Note.mk a0.From a0.Beat a0.Moved (a0.Hands ++ [(Hand.mk 15 a0.From)]) a0.Given a0.Watch) r14 hr) (by kernel_rfl) (by kernel_rfl) (by kernel_rfl) rfl (by kernel_rfl) (by kernel_rfl) (by kernel_rfl))) (fun r14 => ?_))
                  refine SimI.rn 3 [(84, qb (!(r14))), (83, qb (!(r14))), (82, qb (!(r14)))] [] (.split 84 (!(r14)) (by kernel_rfl) ?_ ?_)
                  · refine SimI.rn 1 [(85, .agg [lj a0.From, lj a0.Beat, vw Thing.cod a0.Moved, vw Hand.cod a0.Hands, vw Thing.cod a0.Given, vw Command.cod a0.Watch])] [] (.cl 86 true [[(2, 11), (3, 2), (4, 11), (5, 22)], []] 11 [Operand.tmp 85, Operand.const (Value.int IntKind.i64 4)] (some (84, true)) (fun r15 => qb r15) [.agg [lj a0.From, lj a0.Beat, vw Thing.cod a0.Moved, vw Hand.cod a0.Hands, vw Thing.cod a0.Given, vw Command.cod a0.Watch], qj 4] (F11_ok n a0 4) (fun r15 => ?_))
                    exact SimI.rd 2 [(4, qb r15), (87, qb r15)] [] (.thenN (.ret .fn))
                  · exact SimI.rd 4 [(4, qb false), (87, qb false), (86, .tup []), (85, .tup [])] [] (.thenN (.ret .fn))
                · exact SimI.rd 10 [(4, qb false), (87, qb false), (86, .tup []), (85, .tup []), (84, qb false), (83, qb false), (82, .tup []), (81, .tup []), (80, .tup []), (79, .tup [])] [] (.thenN (.ret .fn))
              · refine Sim.sr 2 [(57, qb ((Int.tmod a1 7) == 4)), (58, qb ((Int.tmod a1 7) == 4))] [] (.cond ((Int.tmod a1 7) == 4) (by kernel_rfl) ?_ ?_)
                · refine Sim.region0 (.rn 2 [(60, .one (vw Command.cod a0.Watch)), (59, qp 2 5)] [] (.guard (c := (a0.Watch).length * 216 ≤ maxCells ∧ (a0.Watch).length ≤ maxCells) ⟨some 61, POp.app 100061 53 22 216 (Operand.const (Value.slice none 0 0)) (Operand.tmp 60), none, []⟩ [(61, .one (.osl 100061 0 0 (a0.Watch).length))] [(100061, some (.arr 53 Command.cod.sz 0 (a0.Watch).length (getOf Command.cod a0.Watch)))] (by kernel_rfl) (fun hc => pOp_eff (by kernel_rfl) (by kernel_rfl) (eff_appNL (c := Command.cod) (l := a0.Watch) (by kernel_rfl) (by kernel_rfl) (by kernel_rfl) (by kernel_rfl) (by kernel_rfl) hc)) (.rn 2 [(63, .one (vw Command.cod [(Command.mk 1 0 0 0 (Point.mk 0 0) (A4.mk (Field.mk 0 be) (Field.mk 0 be) (Field.mk 0 be) (Field.mk 0 be)) (Field.mk 0 be) 0 0 (Rect.mk 0 0 0 0))])), (62, .agg [lj 1, lj 0, lj 0, lj 0, lj 0, lj 0, lj 0, ls be, lj 0, ls be, lj 0, ls be, lj 0, ls be, lj 0, ls be, lj 0, lj 0, lj 0, lj 0, lj 0, lj 0])] [] (.guard (c := ((a0.Watch).length + 1) * 216 ≤ maxCells ∧ (a0.Watch).length + 1 ≤ maxCells) ⟨some 64, POp.app 100061 53 22 216 (Operand.tmp 61) (Operand.tmp 63), none, []⟩ [(64, .one (.osl 100061 (0 + 1) 0 ((a0.Watch ++ [(Command.mk 1 0 0 0 (Point.mk 0 0) (A4.mk (Field.mk 0 be) (Field.mk 0 be) (Field.mk 0 be) (Field.mk 0 be)) (Field.mk 0 be) 0 0 (Rect.mk 0 0 0 0))])).length))] [(100061, some (.arr 53 Command.cod.sz (0 + 1) ((a0.Watch ++ [(Command.mk 1 0 0 0 (Point.mk 0 0) (A4.mk (Field.mk 0 be) (Field.mk 0 be) (Field.mk 0 be) (Field.mk 0 be)) (Field.mk 0 be) 0 0 (Rect.mk 0 0 0 0))])).length (getOf Command.cod (a0.Watch ++ [(Command.mk 1 0 0 0 (Point.mk 0 0) (A4.mk (Field.mk 0 be) (Field.mk 0 be) (Field.mk 0 be) (Field.mk 0 be)) (Field.mk 0 be) 0 0 (Rect.mk 0 0 0 0))]))))] (by kernel_rfl) (fun hc => pOp_eff (by kernel_rfl) (by kernel_rfl) (eff_appO (c := Command.cod) (g := 0) (l := a0.Watch) (a := (Command.mk 1 0 0 0 (Point.mk 0 0) (A4.mk (Field.mk 0 be) (Field.mk 0 be) (Field.mk 0 be) (Field.mk 0 be)) (Field.mk 0 be) 0 0 (Rect.mk 0 0 0 0))) (by kernel_rfl) (by kernel_rfl) (by kernel_rfl) (by kernel_rfl) hc)) (.rd 2 [(65, qp 5 5)] [(5, some (.cells [lj a0.From, lj a0.Beat, vw Thing.cod a0.Moved, vw Hand.cod a0.Hands, vw Thing.cod a0.Given, .osl 100061 (0 + 1) 0 ((a0.Watch ++ [(Command.mk 1 0 0 0 (Point.mk 0 0) (A4.mk (Field.mk 0 be) (Field.mk 0 be) (Field.mk 0 be) (Field.mk 0 be)) (Field.mk 0 be) 0 0 (Rect.mk 0 0 0 0))])).length]))] (.blockN (.thenN (.seq (.rg [(2, qp 2 0), (5, qp 5 0)] [(2, some (.cells [lj a0.From, lj a0.Beat, vw Thing.cod a0.Moved, vw Hand.cod a0.Hands, vw Thing.cod a0.Given, vw Command.cod a0.Watch])), (5, some (.cells [lj a0.From, lj a0.Beat, vw Thing.cod a0.Moved, vw Hand.cod a0.Hands, vw Thing.cod a0.Given, .osl 100061 0 0 ((a0.Watch ++ [(Command.mk 1 0 0 0 (Point.mk 0 0) (A4.mk (Field.mk 0 be) (Field.mk 0 be) (Field.mk 0 be) (Field.mk 0 be)) (Field.mk 0 be) 0 0 (Rect.mk 0 0 0 0))])).length])), (100061, some (.arr 53 Command.cod.sz 0 ((a0.Watch ++ [(Command.mk 1 0 0 0 (Point.mk 0 0) (A4.mk (Field.mk 0 be) (Field.mk 0 be) (Field.mk 0 be) (Field.mk 0 be)) (Field.mk 0 be) 0 0 (Rect.mk 0 0 0 0))])).length (getOf Command.cod (a0.Watch ++ [(Command.mk 1 0 0 0 (Point.mk 0 0) (A4.mk (Field.mk 0 be) (Field.mk 0 be) (Field.mk 0 be) (Field.mk 0 be)) (Field.mk 0 be) 0 0 (Rect.mk 0 0 0 0))]))))] (.rn 1 [(75, .agg [lj a0.From, lj a0.Beat, vw Thing.cod a0.Moved, vw Hand.cod a0.Hands, vw Thing.cod a0.Given, .osl 100061 0 0 ((a0.Watch ++ [(Command.mk 1 0 0 0 (Point.mk 0 0) (A4.mk (Field.mk 0 be) (Field.mk 0 be) (Field.mk 0 be) (Field.mk 0 be)) (Field.mk 0 be) 0 0 (Rect.mk 0 0 0 0))])).length])] [] (.bind (og := F11 n (Note.mk a0.From a0.Beat a0.Moved a0.Hands a0.Given (a0.Watch ++ [(Command.mk 1 0 0 0 (Point.mk 0 0) (A4.mk (Field.mk 0 be) (Field.mk 0 be) (Field.mk 0 be) (Field.mk 0 be)) (Field.mk 0 be) 0 0 (Rect.mk 0 0 0 0))])) 3) ⟨some 76, POp.gcall false false [100021, 100037, 100050, 100061, 100070, 300000, 300001, 300002, 300003, 300004, 300005, 300006, 300007] [[(2, 11), (3, 2), (4, 11), (5, 22)], []] 11 [Operand.tmp 75, Operand.const (Value.int IntKind.i64 3)], none, []⟩ (fun r16 => [(76, qb r16)]) (fun r16 => []) (by kernel_rfl) (fun r16 hr => pOp_eff (by kernel_rfl) (by kernel_rfl) (eff_gcall (ks := []) (rks := [100061]) (new := []) (ARGS := [.agg [lj a0.From, lj a0.Beat, vw Thing.cod a0.Moved, vw Hand.cod a0.Hands, vw Thing.cod a0.Given, .osl 100061 0 0 ((a0.Watch ++ [(Command.mk 1 0 0 0 (Point.mk 0 0) (A4.mk (Field.mk 0 be) (Field.mk 0 be) (Field.mk 0 be) (Field.mk 0 be)) (Field.mk 0 be) 0 0 (Rect.mk 0 0 0 0))])).length], qj 3]) (args1 := [.agg [lj a0.From, lj a0.Beat, vw Thing.cod a0.Moved, vw Hand.cod a0.Hands, vw Thing.cod a0.Given, vw Command.cod (a0.Watch ++ [(Command.mk 1 0 0 0 (Point.mk 0 0) (A4.mk (Field.mk 0 be) (Field.mk 0 be) (Field.mk 0 be) (Field.mk 0 be)) (Field.mk 0 be) 0 0 (Rect.mk 0 0 0 0))])], qj 3]) (args2 := [.agg [lj a0.From, lj a0.Beat, vw Thing.cod a0.Moved, vw Hand.cod a0.Hands, vw Thing.cod a0.Given, vw Command.cod (a0.Watch ++ [(Command.mk 1 0 0 0 (Point.mk 0 0) (A4.mk (Field.mk 0 be) (Field.mk 0 be) (Field.mk 0 be) (Field.mk 0 be)) (Field.mk 0 be) 0 0 (Rect.mk 0 0 0 0))])], qj 3]) (os := []) (os' := []) (os1 := []) (res := qb r16) (res1 := qb r16) (r := qb r16) (N := []) (by kernel_rfl) (readA_ow (readA_aggO (readLs_keep (by kernel_rfl) (readLs_keep (by kernel_rfl) (readLs_keep (by kernel_rfl) (readLs_keep (by kernel_rfl) (readLs_keep (by kernel_rfl) (readLs_own (c := Command.cod) (k := 100061) (g := 0) (el := 53) (l := (a0.Watch ++ [(Command.mk 1 0 0 0 (Point.mk 0 0) (A4.mk (Field.mk 0 be) (Field.mk 0 be) (Field.mk 0 be) (Field.mk 0 be)) (Field.mk 0 be) 0 0 (Rect.mk 0 0 0 0))])) (by kernel_rfl) (readLs_nil))))))) (readA_keep (by kernel_rfl) (readA_nil)))) (by kernel_rfl) (by kernel_rfl) (by kernel_rfl) (by kernel_rfl) (F11_ok n (Note.mk a0.From a0.Beat a0.Moved a0.Hands a0.Given (a0.Watch ++ [(Command.mk 1 0 0 0 (Point.mk 0 0) (A4.mk (Field.mk 0 be) (Field.mk 0 be) (Field.mk 0 be) (Field.mk 0 be)) (Field.mk 0 be) 0 0 (Rect.mk 0 0 0 0))])) 3 r16 hr) (by kernel_rfl) (by kernel_rfl) (by kernel_rfl) rfl (by kernel_rfl) (by kernel_rfl) (by kernel_rfl))) (fun r16 => ?_))))))))))))
                  refine SimI.rn 2 [(78, qb (!(r16))), (77, qb (!(r16)))] [] (.split 78 (!(r16)) (by kernel_rfl) ?_ ?_)
                  · refine SimI.rn 2 [(80, .agg [lj a0.From, lj a0.Beat, vw Thing.cod a0.Moved, vw Hand.cod a0.Hands, vw Thing.cod a0.Given, .osl 100061 0 0 ((a0.Watch ++ [(Command.mk 1 0 0 0 (Point.mk 0 0) (A4.mk (Field.mk 0 be) (Field.mk 0 be) (Field.mk 0 be) (Field.mk 0 be)) (Field.mk 0 be) 0 0 (Rect.mk 0 0 0 0))])).length]), (79, .agg [lj a0.From, lj a0.Beat, vw Thing.cod a0.Moved, vw Hand.cod a0.Hands, vw Thing.cod a0.Given, vw Command.cod a0.Watch])] [] (.bind (og := F12 n a0 (Note.mk a0.From a0.Beat a0.Moved a0.Hands a0.Given (a0.Watch ++ [(Command.mk 1 0 0 0 (Point.mk 0 0) (A4.mk (Field.mk 0 be) (Field.mk 0 be) (Field.mk 0 be) (Field.mk 0 be)) (Field.mk 0 be) 0 0 (Rect.mk 0 0 0 0))]))) ⟨some 81, POp.gcall false false [100021, 100037, 100050, 100061, 100070, 300000, 300001, 300002, 300003, 300004, 300005, 300006, 300007] [[(2, 11), (3, 2), (4, 11), (5, 22)], [(2, 11), (3, 2), (4, 11), (5, 22)]] 12 [Operand.tmp 79, Operand.tmp 80], some (78, true), []⟩ (fun r17 => [(81, qb r17)]) (fun r17 => []) (by kernel_rfl) (fun r17 hr => pOp_eff (by kernel_rfl) (by kernel_rfl) (eff_gcall (ks := []) (rks := [100061]) (new := []) (ARGS := [.agg [lj a0.From, lj a0.Beat, vw Thing.cod a0.Moved, vw Hand.cod a0.Hands, vw Thing.cod a0.Given, vw Command.cod a0.Watch], .agg [lj a0.From, lj a0.Beat, vw Thing.cod a0.Moved, vw Hand.cod a0.Hands, vw Thing.cod a0.Given, .osl 100061 0 0 ((a0.Watch ++ [(Command.mk 1 0 0 0 (Point.mk 0 0) (A4.mk (Field.mk 0 be) (Field.mk 0 be) (Field.mk 0 be) (Field.mk 0 be)) (Field.mk 0 be) 0 0 (Rect.mk 0 0 0 0))])).length]]) (args1 := [.agg [lj a0.From, lj a0.Beat, vw Thing.cod a0.Moved, vw Hand.cod a0.Hands, vw Thing.cod a0.Given, vw Command.cod a0.Watch], .agg [lj a0.From, lj a0.Beat, vw Thing.cod a0.Moved, vw Hand.cod a0.Hands, vw Thing.cod a0.Given, vw Command.cod (a0.Watch ++ [(Command.mk 1 0 0 0 (Point.mk 0 0) (A4.mk (Field.mk 0 be) (Field.mk 0 be) (Field.mk 0 be) (Field.mk 0 be)) (Field.mk 0 be) 0 0 (Rect.mk 0 0 0 0))])]]) (args2 := [.agg [lj a0.From, lj a0.Beat, vw Thing.cod a0.Moved, vw Hand.cod a0.Hands, vw Thing.cod a0.Given, vw Command.cod a0.Watch], .agg [lj a0.From, lj a0.Beat, vw Thing.cod a0.Moved, vw Hand.cod a0.Hands, vw Thing.cod a0.Given, vw Command.cod (a0.Watch ++ [(Command.mk 1 0 0 0 (Point.mk 0 0) (A4.mk (Field.mk 0 be) (Field.mk 0 be) (Field.mk 0 be) (Field.mk 0 be)) (Field.mk 0 be) 0 0 (Rect.mk 0 0 0 0))])]]) (os := []) (os' := []) (os1 := []) (res := qb r17) (res1 := qb r17) (r := qb r17) (N := []) (by kernel_rfl) (readA_ow (readA_agg (by kernel_rfl) (readA_aggO (readLs_keep (by kernel_rfl) (readLs_keep (by kernel_rfl) (readLs_keep (by kernel_rfl) (readLs_keep (by kernel_rfl) (readLs_keep (by kernel_rfl) (readLs_own (c := Command.cod) (k := 100061) (g := 0) (el := 53) (l := (a0.Watch ++ [(Command.mk 1 0 0 0 (Point.mk 0 0) (A4.mk (Field.mk 0 be) (Field.mk 0 be) (Field.mk 0 be) (Field.mk 0 be)) (Field.mk 0 be) 0 0 (Rect.mk 0 0 0 0))])) (by kernel_rfl) (readLs_nil))))))) (readA_nil)))) (by kernel_rfl) (by kernel_rfl) (by kernel_rfl) (by kernel_rfl) (F12_ok n a0 (Note.mk a0.From a0.Beat a0.Moved a0.Hands a0.Given (a0.Watch ++ [(Command.mk 1 0 0 0 (Point.mk 0 0) (A4.mk (Field.mk 0 be) (Field.mk 0 be) (Field.mk 0 be) (Field.mk 0 be)) (Field.mk 0 be) 0 0 (Rect.mk 0 0 0 0))])) r17 hr) (by kernel_rfl) (by kernel_rfl) (by kernel_rfl) rfl (by kernel_rfl) (by kernel_rfl) (by kernel_rfl))) (fun r17 => ?_))
                    refine SimI.rn 3 [(84, qb (!(r17))), (83, qb (!(r17))), (82, qb (!(r17)))] [] (.split 84 (!(r17)) (by kernel_rfl) ?_ ?_)
                    · refine SimI.rn 1 [(85, .agg [lj a0.From, lj a0.Beat, vw Thing.cod a0.Moved, vw Hand.cod a0.Hands, vw Thing.cod a0.Given, vw Command.cod a0.Watch])] [] (.cl 86 true [[(2, 11), (3, 2), (4, 11), (5, 22)], []] 11 [Operand.tmp 85, Operand.const (Value.int IntKind.i64 4)] (some (84, true)) (fun r18 => qb r18) [.agg [lj a0.From, lj a0.Beat, vw Thing.cod a0.Moved, vw Hand.cod a0.Hands, vw Thing.cod a0.Given, vw Command.cod a0.Watch], qj 4] (F11_ok n a0 4) (fun r18 => ?_))
                      exact SimI.rd 2 [(4, qb r18), (87, qb r18)] [] (.thenN (.ret .fn))
                    · exact SimI.rd 4 [(4, qb false), (87, qb false), (86, .tup []), (85, .tup [])] [] (.thenN (.ret .fn))
                  · exact SimI.rd 10 [(4, qb false), (87, qb false), (86, .tup []), (85, .tup []), (84, qb false), (83, qb false), (82, .tup []), (81, .tup []), (80, .tup []), (79, .tup [])] [] (.thenN (.ret .fn))
                · refine Sim.sr 2 [(66, qb ((Int.tmod a1 7) == 5)), (67, qb ((Int.tmod a1 7) == 5))] [] (.cond ((Int.tmod a1 7) == 5) (by kernel_rfl) ?_ ?_)
                  · refine Sim.region0 (.rn 2 [(69, .one (vw Thing.cod a0.Moved)), (68, qp 2 2)] [] (.guard (c := (a0.Moved).length * 120 ≤ maxCells ∧ (a0.Moved).length ≤ maxCells) ⟨some 70, POp.app 100070 55 11 120 (Operand.const (Value.slice none 0 0)) (Operand.tmp 69), none, []⟩ [(70, .one (.osl 100070 0 0 (a0.Moved).length))] [(100070, some (.arr 55 Thing.cod.sz 0 (a0.Moved).length (getOf Thing.cod a0.Moved)))] (by kernel_rfl) (fun hc => pOp_eff (by kernel_rfl) (by kernel_rfl) (eff_appNL (c := Thing.cod) (l := a0.Moved) (by kernel_rfl) (by kernel_rfl) (by kernel_rfl) (by kernel_rfl) (by kernel_rfl) hc)) (.rn 2 [(72, .one (vw Thing.cod [(Thing.mk (-1) (Point.mk 0 0) (A4.mk (Field.mk 0 be) (Field.mk 0 be) (Field.mk 0 be) (Field.mk 0 be)))])), (71, .agg [lj (-1), lj 0, lj 0, lj 0, ls be, lj 0, ls be, lj 0, ls be, lj 0, ls be])] [] (.guard (c := ((a0.Moved).length + 1) * 120 ≤ maxCells ∧ (a0.Moved).length + 1 ≤ maxCells) ⟨some 73, POp.app 100070 55 11 120 (Operand.tmp 70) (Operand.tmp 72), none, []⟩ [(73, .one (.osl 100070 (0 + 1) 0 ((a0.Moved ++ [(Thing.mk (-1) (Point.mk 0 0) (A4.mk (Field.mk 0 be) (Field.mk 0 be) (Field.mk 0 be) (Field.mk 0 be)))])).length))] [(100070, some (.arr 55 Thing.cod.sz (0 + 1) ((a0.Moved ++ [(Thing.mk (-1) (Point.mk 0 0) (A4.mk (Field.mk 0 be) (Field.mk 0 be) (Field.mk 0 be) (Field.mk 0 be)))])).length (getOf Thing.cod (a0.Moved ++ [(Thing.mk (-1) (Point.mk 0 0) (A4.mk (Field.mk 0 be) (Field.mk 0 be) (Field.mk 0 be) (Field.mk 0 be)))]))))] (by kernel_rfl) (fun hc => pOp_eff (by kernel_rfl) (by kernel_rfl) (eff_appO (c := Thing.cod) (g := 0) (l := a0.Moved) (a := (Thing.mk (-1) (Point.mk 0 0) (A4.mk (Field.mk 0 be) (Field.mk 0 be) (Field.mk 0 be) (Field.mk 0 be)))) (by kernel_rfl) (by kernel_rfl) (by kernel_rfl) (by kernel_rfl) hc)) (.rd 2 [(74, qp 5 2)] [(5, some (.cells [lj a0.From, lj a0.Beat, .osl 100070 (0 + 1) 0 ((a0.Moved ++ [(Thing.mk (-1) (Point.mk 0 0) (A4.mk (Field.mk 0 be) (Field.mk 0 be) (Field.mk 0 be) (Field.mk 0 be)))])).length, vw Hand.cod a0.Hands, vw Thing.cod a0.Given, vw Command.cod a0.Watch]))] (.blockN (.thenN (.seq (.rg [(2, qp 2 0), (5, qp 5 0)] [(2, some (.cells [lj a0.From, lj a0.Beat, vw Thing.cod a0.Moved, vw Hand.cod a0.Hands, vw Thing.cod a0.Given, vw Command.cod a0.Watch])), (5, some (.cells [lj a0.From, lj a0.Beat, .osl 100070 0 0 ((a0.Moved ++ [(Thing.mk (-1) (Point.mk 0 0) (A4.mk (Field.mk 0 be) (Field.mk 0 be) (Field.mk 0 be) (Field.mk 0 be)))])).length, vw Hand.cod a0.Hands, vw Thing.cod a0.Given, vw Command.cod a0.Watch])), (100070, some (.arr 55 Thing.cod.sz 0 ((a0.Moved ++ [(Thing.mk (-1) (Point.mk 0 0) (A4.mk (Field.mk 0 be) (Field.mk 0 be) (Field.mk 0 be) (Field.mk 0 be)))])).length (getOf Thing.cod (a0.Moved ++ [(Thing.mk (-1) (Point.mk 0 0) (A4.mk (Field.mk 0 be) (Field.mk 0 be) (Field.mk 0 be) (Field.mk 0 be)))]))))] (.rn 1 [(75, .agg [lj a0.From, lj a0.Beat, .osl 100070 0 0 ((a0.Moved ++ [(Thing.mk (-1) (Point.mk 0 0) (A4.mk (Field.mk 0 be) (Field.mk 0 be) (Field.mk 0 be) (Field.mk 0 be)))])).length, vw Hand.cod a0.Hands, vw Thing.cod a0.Given, vw Command.cod a0.Watch])] [] (.bind (og := F11 n (Note.mk a0.From a0.Beat (a0.Moved ++ [(Thing.mk (-1) (Point.mk 0 0) (A4.mk (Field.mk 0 be) (Field.mk 0 be) (Field.mk 0 be) (Field.mk 0 be)))]) a0.Hands a0.Given a0.Watch) 3) ⟨some 76, POp.gcall false false [100021, 100037, 100050, 100061, 100070, 300000, 300001, 300002, 300003, 300004, 300005, 300006, 300007] [[(2, 11), (3, 2), (4, 11), (5, 22)], []] 11 [Operand.tmp 75, Operand.const (Value.int IntKind.i64 3)], none, []⟩ (fun r19 => [(76, qb r19)]) (fun r19 => []) (by kernel_rfl) (fun r19 hr => pOp_eff (by kernel_rfl) (by kernel_rfl) (eff_gcall (ks := []) (rks := [100070]) (new := []) (ARGS := [.agg [lj a0.From, lj a0.Beat, .osl 100070 0 0 ((a0.Moved ++ [(Thing.mk (-1) (Point.mk 0 0) (A4.mk (Field.mk 0 be) (Field.mk 0 be) (Field.mk 0 be) (Field.mk 0 be)))])).length, vw Hand.cod a0.Hands, vw Thing.cod a0.Given, vw Command.cod a0.Watch], qj 3]) (args1 := [.agg [lj a0.From, lj a0.Beat, vw Thing.cod (a0.Moved ++ [(Thing.mk (-1) (Point.mk 0 0) (A4.mk (Field.mk 0 be) (Field.mk 0 be) (Field.mk 0 be) (Field.mk 0 be)))]), vw Hand.cod a0.Hands, vw Thing.cod a0.Given, vw Command.cod a0.Watch], qj 3]) (args2 := [.agg [lj a0.From, lj a0.Beat, vw Thing.cod (a0.Moved ++ [(Thing.mk (-1) (Point.mk 0 0) (A4.mk (Field.mk 0 be) (Field.mk 0 be) (Field.mk 0 be) (Field.mk 0 be)))]), vw Hand.cod a0.Hands, vw Thing.cod a0.Given, vw Command.cod a0.Watch], qj 3]) (os := []) (os' := []) (os1 := []) (res := qb r19) (res1 := qb r19) (r := qb r19) (N := []) (by kernel_rfl) (readA_ow (readA_aggO (readLs_keep (by kernel_rfl) (readLs_keep (by kernel_rfl) (readLs_own (c := Thing.cod) (k := 100070) (g := 0) (el := 55) (l := (a0.Moved ++ [(Thing.mk (-1) (Point.mk 0 0) (A4.mk (Field.mk 0 be) (Field.mk 0 be) (Field.mk 0 be) (Field.mk 0 be)))])) (by kernel_rfl) (readLs_keep (by kernel_rfl) (readLs_keep (by kernel_rfl) (readLs_keep (by kernel_rfl) (readLs_nil))))))) (readA_keep (by kernel_rfl) (readA_nil)))) (by kernel_rfl) (by kernel_rfl) (by kernel_rfl) (by kernel_rfl) (F11_ok n (Note.mk a0.From a0.Beat (a0.Moved ++ [(Thing.mk (-1) (Point.mk 0 0) (A4.mk (Field.mk 0 be) (Field.mk 0 be) (Field.mk 0 be) (Field.mk 0 be)))]) a0.Hands a0.Given a0.Watch) 3 r19 hr) (by kernel_rfl) (by kernel_rfl) (by kernel_rfl) rfl (by kernel_rfl) (by kernel_rfl) (by kernel_rfl))) (fun r19 => ?_))))))))))))
                    refine SimI.rn 2 [(78, qb (!(r19))), (77, qb (!(r19)))] [] (.split 78 (!(r19)) (by kernel_rfl) ?_ ?_)
                    · refine SimI.rn 2 [(80, .agg [lj a0.From, lj a0.Beat, .osl 100070 0 0 ((a0.Moved ++ [(Thing.mk (-1) (Point.mk 0 0) (A4.mk (Field.mk 0 be) (Field.mk 0 be) (Field.mk 0 be) (Field.mk 0 be)))])).length, vw Hand.cod a0.Hands, vw Thing.cod a0.Given, vw Command.cod a0.Watch]), (79, .agg [lj a0.From, lj a0.Beat, vw Thing.cod a0.Moved, vw Hand.cod a0.Hands, vw Thing.cod a0.Given, vw Command.cod a0.Watch])] [] (.bind (og := F12 n a0 (Note.mk a0.From a0.Beat (a0.Moved ++ [(Thing.mk (-1) (Point.mk 0 0) (A4.mk (Field.mk 0 be) (Field.mk 0 be) (Field.mk 0 be) (Field.mk 0 be)))]) a0.Hands a0.Given a0.Watch)) ⟨some 81, POp.gcall false false [100021, 100037, 100050, 100061, 100070, 300000, 300001, 300002, 300003, 300004, 300005, 300006, 300007] [[(2, 11), (3, 2), (4, 11), (5, 22)], [(2, 11), (3, 2), (4, 11), (5, 22)]] 12 [Operand.tmp 79, Operand.tmp 80], some (78, true), []⟩ (fun r20 => [(81, qb r20)]) (fun r20 => []) (by kernel_rfl) (fun r20 hr => pOp_eff (by kernel_rfl) (by kernel_rfl) (eff_gcall (ks := []) (rks := [100070]) (new := []) (ARGS := [.agg [lj a0.From, lj a0.Beat, vw Thing.cod a0.Moved, vw Hand.cod a0.Hands, vw Thing.cod a0.Given, vw Command.cod a0.Watch], .agg [lj a0.From, lj a0.Beat, .osl 100070 0 0 ((a0.Moved ++ [(Thing.mk (-1) (Point.mk 0 0) (A4.mk (Field.mk 0 be) (Field.mk 0 be) (Field.mk 0 be) (Field.mk 0 be)))])).length, vw Hand.cod a0.Hands, vw Thing.cod a0.Given, vw Command.cod a0.Watch]]) (args1 := [.agg [lj a0.From, lj a0.Beat, vw Thing.cod a0.Moved, vw Hand.cod a0.Hands, vw Thing.cod a0.Given, vw Command.cod a0.Watch], .agg [lj a0.From, lj a0.Beat, vw Thing.cod (a0.Moved ++ [(Thing.mk (-1) (Point.mk 0 0) (A4.mk (Field.mk 0 be) (Field.mk 0 be) (Field.mk 0 be) (Field.mk 0 be)))]), vw Hand.cod a0.Hands, vw Thing.cod a0.Given, vw Command.cod a0.Watch]]) (args2 := [.agg [lj a0.From, lj a0.Beat, vw Thing.cod a0.Moved, vw Hand.cod a0.Hands, vw Thing.cod a0.Given, vw Command.cod a0.Watch], .agg [lj a0.From, lj a0.Beat, vw Thing.cod (a0.Moved ++ [(Thing.mk (-1) (Point.mk 0 0) (A4.mk (Field.mk 0 be) (Field.mk 0 be) (Field.mk 0 be) (Field.mk 0 be)))]), vw Hand.cod a0.Hands, vw Thing.cod a0.Given, vw Command.cod a0.Watch]]) (os := []) (os' := []) (os1 := []) (res := qb r20) (res1 := qb r20) (r := qb r20) (N := []) (by kernel_rfl) (readA_ow (readA_agg (by kernel_rfl) (readA_aggO (readLs_keep (by kernel_rfl) (readLs_keep (by kernel_rfl) (readLs_own (c := Thing.cod) (k := 100070) (g := 0) (el := 55) (l := (a0.Moved ++ [(Thing.mk (-1) (Point.mk 0 0) (A4.mk (Field.mk 0 be) (Field.mk 0 be) (Field.mk 0 be) (Field.mk 0 be)))])) (by kernel_rfl) (readLs_keep (by kernel_rfl) (readLs_keep (by kernel_rfl) (readLs_keep (by kernel_rfl) (readLs_nil))))))) (readA_nil)))) (by kernel_rfl) (by kernel_rfl) (by kernel_rfl) (by kernel_rfl) (F12_ok n a0 (Note.mk a0.From a0.Beat (a0.Moved ++ [(Thing.mk (-1) (Point.mk 0 0) (A4.mk (Field.mk 0 be) (Field.mk 0 be) (Field.mk 0 be) (Field.mk 0 be)))]) a0.Hands a0.Given a0.Watch) r20 hr) (by kernel_rfl) (by kernel_rfl) (by kernel_rfl) rfl (by kernel_rfl) (by kernel_rfl) (by kernel_rfl))) (fun r20 => ?_))
                      refine SimI.rn 3 [(84, qb (!(r20))), (83, qb (!(r20))), (82, qb (!(r20)))] [] (.split 84 (!(r20)) (by kernel_rfl) ?_ ?_)
                      · refine SimI.rn 1 [(85, .agg [lj a0.From, lj a0.Beat, vw Thing.cod a0.Moved, vw Hand.cod a0.Hands, vw Thing.cod a0.Given, vw Command.cod a0.Watch])] [] (.cl 86 true [[(2, 11), (3, 2), (4, 11), (5, 22)], []] 11 [Operand.tmp 85, Operand.const (Value.int IntKind.i64 4)] (some (84, true)) (fun r21 => qb r21) [.agg [lj a0.From, lj a0.Beat, vw Thing.cod a0.Moved, vw Hand.cod a0.Hands, vw Thing.cod a0.Given, vw Command.cod a0.Watch], qj 4] (F11_ok n a0 4) (fun r21 => ?_))
                        exact SimI.rd 2 [(4, qb r21), (87, qb r21)] [] (.thenN (.ret .fn))
                      · exact SimI.rd 4 [(4, qb false), (87, qb false), (86, .tup []), (85, .tup [])] [] (.thenN (.ret .fn))
                    · exact SimI.rd 10 [(4, qb false), (87, qb false), (86, .tup []), (85, .tup []), (84, qb false), (83, qb false), (82, .tup []), (81, .tup []), (80, .tup []), (79, .tup [])] [] (.thenN (.ret .fn))
                  · refine Sim.region0 (.rn 2 [(20, .one (vw Thing.cod a0.Given)), (19, qp 2 4)] [] (.guard (c := (a0.Given).length * 120 ≤ maxCells ∧ (a0.Given).length ≤ maxCells) ⟨some 21, POp.app 100021 55 11 120 (Operand.const (Value.slice none 0 0)) (Operand.tmp 20), none, []⟩ [(21, .one (.osl 100021 0 0 (a0.Given).length))] [(100021, some (.arr 55 Thing.cod.sz 0 (a0.Given).length (getOf Thing.cod a0.Given)))] (by kernel_rfl) (fun hc => pOp_eff (by kernel_rfl) (by kernel_rfl) (eff_appNL (c := Thing.cod) (l := a0.Given) (by kernel_rfl) (by kernel_rfl) (by kernel_rfl) (by kernel_rfl) (by kernel_rfl) hc)) (.rn 3 [(24, .one (vw Thing.cod [(Thing.mk 1000000 (Point.mk 64 0) (A4.mk (Field.mk 0 be) (Field.mk 0 be) (Field.mk 0 be) (Field.mk 0 be)))])), (23, .agg [lj 1000000, lj 64, lj 0, lj 0, ls be, lj 0, ls be, lj 0, ls be, lj 0, ls be]), (22, .agg [lj 64, lj 0])] [] (.guard (c := ((a0.Given).length + 1) * 120 ≤ maxCells ∧ (a0.Given).length + 1 ≤ maxCells) ⟨some 25, POp.app 100021 55 11 120 (Operand.tmp 21) (Operand.tmp 24), none, []⟩ [(25, .one (.osl 100021 (0 + 1) 0 ((a0.Given ++ [(Thing.mk 1000000 (Point.mk 64 0) (A4.mk (Field.mk 0 be) (Field.mk 0 be) (Field.mk 0 be) (Field.mk 0 be)))])).length))] [(100021, some (.arr 55 Thing.cod.sz (0 + 1) ((a0.Given ++ [(Thing.mk 1000000 (Point.mk 64 0) (A4.mk (Field.mk 0 be) (Field.mk 0 be) (Field.mk 0 be) (Field.mk 0 be)))])).length (getOf Thing.cod (a0.Given ++ [(Thing.mk 1000000 (Point.mk 64 0) (A4.mk (Field.mk 0 be) (Field.mk 0 be) (Field.mk 0 be) (Field.mk 0 be)))]))))] (by kernel_rfl) (fun hc => pOp_eff (by kernel_rfl) (by kernel_rfl) (eff_appO (c := Thing.cod) (g := 0) (l := a0.Given) (a := (Thing.mk 1000000 (Point.mk 64 0) (A4.mk (Field.mk 0 be) (Field.mk 0 be) (Field.mk 0 be) (Field.mk 0 be)))) (by kernel_rfl) (by kernel_rfl) (by kernel_rfl) (by kernel_rfl) hc)) (.rd 2 [(26, qp 5 4)] [(5, some (.cells [lj a0.From, lj a0.Beat, vw Thing.cod a0.Moved, vw Hand.cod a0.Hands, .osl 100021 (0 + 1) 0 ((a0.Given ++ [(Thing.mk 1000000 (Point.mk 64 0) (A4.mk (Field.mk 0 be) (Field.mk 0 be) (Field.mk 0 be) (Field.mk 0 be)))])).length, vw Command.cod a0.Watch]))] (.blockN (.thenN (.seq (.rg [(2, qp 2 0), (5, qp 5 0)] [(2, some (.cells [lj a0.From, lj a0.Beat, vw Thing.cod a0.Moved, vw Hand.cod a0.Hands, vw Thing.cod a0.Given, vw Command.cod a0.Watch])), (5, some (.cells [lj a0.From, lj a0.Beat, vw Thing.cod a0.Moved, vw Hand.cod a0.Hands, .osl 100021 0 0 ((a0.Given ++ [(Thing.mk 1000000 (Point.mk 64 0) (A4.mk (Field.mk 0 be) (Field.mk 0 be) (Field.mk 0 be) (Field.mk 0 be)))])).length, vw Command.cod a0.Watch])), (100021, some (.arr 55 Thing.cod.sz 0 ((a0.Given ++ [(Thing.mk 1000000 (Point.mk 64 0) (A4.mk (Field.mk 0 be) (Field.mk 0 be) (Field.mk 0 be) (Field.mk 0 be)))])).length (getOf Thing.cod (a0.Given ++ [(Thing.mk 1000000 (Point.mk 64 0) (A4.mk (Field.mk 0 be) (Field.mk 0 be) (Field.mk 0 be) (Field.mk 0 be)))]))))] (.rn 1 [(75, .agg [lj a0.From, lj a0.Beat, vw Thing.cod a0.Moved, vw Hand.cod a0.Hands, .osl 100021 0 0 ((a0.Given ++ [(Thing.mk 1000000 (Point.mk 64 0) (A4.mk (Field.mk 0 be) (Field.mk 0 be) (Field.mk 0 be) (Field.mk 0 be)))])).length, vw Command.cod a0.Watch])] [] (.bind (og := F11 n (Note.mk a0.From a0.Beat a0.Moved a0.Hands (a0.Given ++ [(Thing.mk 1000000 (Point.mk 64 0) (A4.mk (Field.mk 0 be) (Field.mk 0 be) (Field.mk 0 be) (Field.mk 0 be)))]) a0.Watch) 3) ⟨some 76, POp.gcall false false [100021, 100037, 100050, 100061, 100070, 300000, 300001, 300002, 300003, 300004, 300005, 300006, 300007] [[(2, 11), (3, 2), (4, 11), (5, 22)], []] 11 [Operand.tmp 75, Operand.const (Value.int IntKind.i64 3)], none, []⟩ (fun r22 => [(76, qb r22)]) (fun r22 => []) (by kernel_rfl) (fun r22 hr => pOp_eff (by kernel_rfl) (by kernel_rfl) (eff_gcall (ks := []) (rks := [100021]) (new := []) (ARGS := [.agg [lj a0.From, lj a0.Beat, vw Thing.cod a0.Moved, vw Hand.cod a0.Hands, .osl 100021 0 0 ((a0.Given ++ [(Thing.mk 1000000 (Point.mk 64 0) (A4.mk (Field.mk 0 be) (Field.mk 0 be) (Field.mk 0 be) (Field.mk 0 be)))])).length, vw Command.cod a0.Watch], qj 3]) (args1 := [.agg [lj a0.From, lj a0.Beat, vw Thing.cod a0.Moved, vw Hand.cod a0.Hands, vw Thing.cod (a0.Given ++ [(Thing.mk 1000000 (Point.mk 64 0) (A4.mk (Field.mk 0 be) (Field.mk 0 be) (Field.mk 0 be) (Field.mk 0 be)))]), vw Command.cod a0.Watch], qj 3]) (args2 := [.agg [lj a0.From, lj a0.Beat, vw Thing.cod a0.Moved, vw Hand.cod a0.Hands, vw Thing.cod (a0.Given ++ [(Thing.mk 1000000 (Point.mk 64 0) (A4.mk (Field.mk 0 be) (Field.mk 0 be) (Field.mk 0 be) (Field.mk 0 be)))]), vw Command.cod a0.Watch], qj 3]) (os := []) (os' := []) (os1 := []) (res := qb r22) (res1 := qb r22) (r := qb r22) (N := []) (by kernel_rfl) (readA_ow (readA_aggO (readLs_keep (by kernel_rfl) (readLs_keep (by kernel_rfl) (readLs_keep (by kernel_rfl) (readLs_keep (by kernel_rfl) (readLs_own (c := Thing.cod) (k := 100021) (g := 0) (el := 55) (l := (a0.Given ++ [(Thing.mk 1000000 (Point.mk 64 0) (A4.mk (Field.mk 0 be) (Field.mk 0 be) (Field.mk 0 be) (Field.mk 0 be)))])) (by kernel_rfl) (readLs_keep (by kernel_rfl) (readLs_nil))))))) (readA_keep (by kernel_rfl) (readA_nil)))) (by kernel_rfl) (by kernel_rfl) (by kernel_rfl) (by kernel_rfl) (F11_ok n (Note.mk a0.From a0.Beat a0.Moved a0.Hands (a0.Given ++ [(Thing.mk 1000000 (Point.mk 64 0) (A4.mk (Field.mk 0 be) (Field.mk 0 be) (Field.mk 0 be) (Field.mk 0 be)))]) a0.Watch) 3 r22 hr) (by kernel_rfl) (by kernel_rfl) (by kernel_rfl) rfl (by kernel_rfl) (by kernel_rfl) (by kernel_rfl))) (fun r22 => ?_))))))))))))
                    refine SimI.rn 2 [(78, qb (!(r22))), (77, qb (!(r22)))] [] (.split 78 (!(r22)) (by kernel_rfl) ?_ ?_)
                    · refine SimI.rn 2 [(80, .agg [lj a0.From, lj a0.Beat, vw Thing.cod a0.Moved, vw Hand.cod a0.Hands, .osl 100021 0 0 ((a0.Given ++ [(Thing.mk 1000000 (Point.mk 64 0) (A4.mk (Field.mk 0 be) (Field.mk 0 be) (Field.mk 0 be) (Field.mk 0 be)))])).length, vw Command.cod a0.Watch]), (79, .agg [lj a0.From, lj a0.Beat, vw Thing.cod a0.Moved, vw Hand.cod a0.Hands, vw Thing.cod a0.Given, vw Command.cod a0.Watch])] [] (.bind (og := F12 n a0 (Note.mk a0.From a0.Beat a0.Moved a0.Hands (a0.Given ++ [(Thing.mk 1000000 (Point.mk 64 0) (A4.mk (Field.mk 0 be) (Field.mk 0 be) (Field.mk 0 be) (Field.mk 0 be)))]) a0.Watch)) ⟨some 81, POp.gcall false false [100021, 100037, 100050, 100061, 100070, 300000, 300001, 300002, 300003, 300004, 300005, 300006, 300007] [[(2, 11), (3, 2), (4, 11), (5, 22)], [(2, 11), (3, 2), (4, 11), (5, 22)]] 12 [Operand.tmp 79, Operand.tmp 80], some (78, true), []⟩ (fun r23 => [(81, qb r23)]) (fun r23 => []) (by kernel_rfl) (fun r23 hr => pOp_eff (by kernel_rfl) (by kernel_rfl) (eff_gcall (ks := []) (rks := [100021]) (new := []) (ARGS := [.agg [lj a0.From, lj a0.Beat, vw Thing.cod a0.Moved, vw Hand.cod a0.Hands, vw Thing.cod a0.Given, vw Command.cod a0.Watch], .agg [lj a0.From, lj a0.Beat, vw Thing.cod a0.Moved, vw Hand.cod a0.Hands, .osl 100021 0 0 ((a0.Given ++ [(Thing.mk 1000000 (Point.mk 64 0) (A4.mk (Field.mk 0 be) (Field.mk 0 be) (Field.mk 0 be) (Field.mk 0 be)))])).length, vw Command.cod a0.Watch]]) (args1 := [.agg [lj a0.From, lj a0.Beat, vw Thing.cod a0.Moved, vw Hand.cod a0.Hands, vw Thing.cod a0.Given, vw Command.cod a0.Watch], .agg [lj a0.From, lj a0.Beat, vw Thing.cod a0.Moved, vw Hand.cod a0.Hands, vw Thing.cod (a0.Given ++ [(Thing.mk 1000000 (Point.mk 64 0) (A4.mk (Field.mk 0 be) (Field.mk 0 be) (Field.mk 0 be) (Field.mk 0 be)))]), vw Command.cod a0.Watch]]) (args2 := [.agg [lj a0.From, lj a0.Beat, vw Thing.cod a0.Moved, vw Hand.cod a0.Hands, vw Thing.cod a0.Given, vw Command.cod a0.Watch], .agg [lj a0.From, lj a0.Beat, vw Thing.cod a0.Moved, vw Hand.cod a0.Hands, vw Thing.cod (a0.Given ++ [(Thing.mk 1000000 (Point.mk 64 0) (A4.mk (Field.mk 0 be) (Field.mk 0 be) (Field.mk 0 be) (Field.mk 0 be)))]), vw Command.cod a0.Watch]]) (os := []) (os' := []) (os1 := []) (res := qb r23) (res1 := qb r23) (r := qb r23) (N := []) (by kernel_rfl) (readA_ow (readA_agg (by kernel_rfl) (readA_aggO (readLs_keep (by kernel_rfl) (readLs_keep (by kernel_rfl) (readLs_keep (by kernel_rfl) (readLs_keep (by kernel_rfl) (readLs_own (c := Thing.cod) (k := 100021) (g := 0) (el := 55) (l := (a0.Given ++ [(Thing.mk 1000000 (Point.mk 64 0) (A4.mk (Field.mk 0 be) (Field.mk 0 be) (Field.mk 0 be) (Field.mk 0 be)))])) (by kernel_rfl) (readLs_keep (by kernel_rfl) (readLs_nil))))))) (readA_nil)))) (by kernel_rfl) (by kernel_rfl) (by kernel_rfl) (by kernel_rfl) (F12_ok n a0 (Note.mk a0.From a0.Beat a0.Moved a0.Hands (a0.Given ++ [(Thing.mk 1000000 (Point.mk 64 0) (A4.mk (Field.mk 0 be) (Field.mk 0 be) (Field.mk 0 be) (Field.mk 0 be)))]) a0.Watch) r23 hr) (by kernel_rfl) (by kernel_rfl) (by kernel_rfl) rfl (by kernel_rfl) (by kernel_rfl) (by kernel_rfl))) (fun r23 => ?_))
                      refine SimI.rn 3 [(84, qb (!(r23))), (83, qb (!(r23))), (82, qb (!(r23)))] [] (.split 84 (!(r23)) (by kernel_rfl) ?_ ?_)
                      · refine SimI.rn 1 [(85, .agg [lj a0.From, lj a0.Beat, vw Thing.cod a0.Moved, vw Hand.cod a0.Hands, vw Thing.cod a0.Given, vw Command.cod a0.Watch])] [] (.cl 86 true [[(2, 11), (3, 2), (4, 11), (5, 22)], []] 11 [Operand.tmp 85, Operand.const (Value.int IntKind.i64 4)] (some (84, true)) (fun r24 => qb r24) [.agg [lj a0.From, lj a0.Beat, vw Thing.cod a0.Moved, vw Hand.cod a0.Hands, vw Thing.cod a0.Given, vw Command.cod a0.Watch], qj 4] (F11_ok n a0 4) (fun r24 => ?_))
                        exact SimI.rd 2 [(4, qb r24), (87, qb r24)] [] (.thenN (.ret .fn))
                      · exact SimI.rd 4 [(4, qb false), (87, qb false), (86, .tup []), (85, .tup [])] [] (.thenN (.ret .fn))
                    · exact SimI.rd 10 [(4, qb false), (87, qb false), (86, .tup []), (85, .tup []), (84, qb false), (83, qb false), (82, .tup []), (81, .tup []), (80, .tup []), (79, .tup [])] [] (.thenN (.ret .fn))


end Go.Proofs.Ytpjejnefegdoeaa
