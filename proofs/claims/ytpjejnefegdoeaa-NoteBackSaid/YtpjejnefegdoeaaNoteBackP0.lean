/- No condition. -/
import Derived.Test.YtpjejnefegdoeaaNoteBackE
namespace Go.Proofs.Ytpjejnefegdoeaa
open Go Go.Rx
set_option maxRecDepth 100000
set_option linter.unusedVariables false
set_option linter.unusedSimpArgs false
set_option linter.unnecessarySimpa false
set_option linter.unnecessarySimpa false
def F60_e : Bool → PV × List Ob := fun r => (.one (lb r), [])
def F60 (n : Nat) (a0 : Field) : Option Bool :=
 if a0.N == 0 then
  some (decide ((a0.Text.size : Int) ≤ 12))
 else
  if a0.Text.toList == ByteArray.empty.toList then
   some (decide ((a0.Text.size : Int) ≤ 12))
  else
   some false
theorem F60_ok (n : Nat) (a0 : Field) : ∀ r, F60 n a0 = some r → D 60 [.agg [li .i64 a0.N, ls a0.Text]] [] = some (F60_e r) := by
 refine fn_to (D := D) (n := n + 8) (nt := 17) (rs := pc60_r) (c := p60c5) (L := [(0, .agg [lj a0.N, ls a0.Text])]) (M := []) (k := 0) rfl rfl rfl rfl rfl rfl rfl ?_
 unfold F60
 refine Sim.sr 2 W56 [(1, some (.cells [lj a0.N, ls a0.Text]))] (.st 4 [(6, qb (a0.N == 0)), (5, qb (a0.N == 0)), (4, qj a0.N), (3, qp 1 0)] [] (.sp 6 _ ?_ ?_))
 ·exact SimI.rd 11 (rp [2, 16, 15] (qb (decide ((a0.Text.size : Int) ≤ 12))) ++ [(14, qj (a0.Text.size : Int)), (13, qs a0.Text), (12, qp 1 1), (11, qb true), (10, qb true), (9, tz), (8, tz), (7, tz)]) [] (.thenN (.ret .fn))
 ·refine SimI.rn 5 (rp [11, 10, 9] (qb (a0.Text.toList == be.toList)) ++ [(8, qs a0.Text), (7, qp 1 1)]) [] (.sp 11 _ ?_ ?_)
  ·exact SimI.rd 6 (rp [2, 16, 15] (qb (decide ((a0.Text.size : Int) ≤ 12))) ++ [(14, qj (a0.Text.size : Int)), (13, qs a0.Text), (12, qp 1 1)]) [] (.thenN (.ret .fn))
  ·exact SimI.rd 6 [(2, qb false), (16, qb false), (15, tz), (14, tz), (13, tz), (12, tz)] [] (.thenN (.ret .fn))
def F61_e : Command → PV × List Ob := fun r => (.agg (Command.cells r), [])
def F61 (n : Nat) (a0 : Command) : Option Command :=
 if a0.Kind == 1 then
  some (Command.mk a0.Kind 0 0 0 a0.At a0.F (Field.mk 0 ByteArray.empty) a0.Client a0.Session (Rect.mk 0 0 0 0))
 else
  if a0.Kind == 2 then
   some (Command.mk a0.Kind a0.ID 0 0 a0.At (A4.mk (Field.mk 0 ByteArray.empty) (Field.mk 0 ByteArray.empty) (Field.mk 0 ByteArray.empty) (Field.mk 0 ByteArray.empty)) (Field.mk 0 ByteArray.empty) a0.Client a0.Session (Rect.mk 0 0 0 0))
  else
   if a0.Kind == 3 then
    some (Command.mk a0.Kind a0.ID a0.Which 0 (Point.mk 0 0) (A4.mk (Field.mk 0 ByteArray.empty) (Field.mk 0 ByteArray.empty) (Field.mk 0 ByteArray.empty) (Field.mk 0 ByteArray.empty)) a0.Value a0.Client a0.Session (Rect.mk 0 0 0 0))
   else
    if a0.Kind == 4 then
     some (Command.mk a0.Kind a0.ID 0 0 (Point.mk 0 0) (A4.mk (Field.mk 0 ByteArray.empty) (Field.mk 0 ByteArray.empty) (Field.mk 0 ByteArray.empty) (Field.mk 0 ByteArray.empty)) (Field.mk 0 ByteArray.empty) a0.Client a0.Session (Rect.mk 0 0 0 0))
    else
     if a0.Kind == 5 then
      some (Command.mk a0.Kind 0 a0.Which a0.To (Point.mk 0 0) (A4.mk (Field.mk 0 ByteArray.empty) (Field.mk 0 ByteArray.empty) (Field.mk 0 ByteArray.empty) (Field.mk 0 ByteArray.empty)) (Field.mk 0 ByteArray.empty) a0.Client a0.Session (Rect.mk 0 0 0 0))
     else
      if a0.Kind == 6 then
       if a0.Kind == 6 then
        some (Command.mk a0.Kind 0 0 0 (Point.mk 0 0) (A4.mk (Field.mk 0 ByteArray.empty) (Field.mk 0 ByteArray.empty) (Field.mk 0 ByteArray.empty) (Field.mk 0 ByteArray.empty)) (Field.mk 0 ByteArray.empty) a0.Client a0.Session a0.Rect)
       else
        some (Command.mk a0.Kind 0 0 0 (Point.mk 0 0) (A4.mk (Field.mk 0 ByteArray.empty) (Field.mk 0 ByteArray.empty) (Field.mk 0 ByteArray.empty) (Field.mk 0 ByteArray.empty)) (Field.mk 0 ByteArray.empty) a0.Client a0.Session (Rect.mk 0 0 0 0))
      else
       if a0.Kind == 7 then
        some (Command.mk a0.Kind 0 0 0 (Point.mk 0 0) (A4.mk (Field.mk 0 ByteArray.empty) (Field.mk 0 ByteArray.empty) (Field.mk 0 ByteArray.empty) (Field.mk 0 ByteArray.empty)) (Field.mk 0 ByteArray.empty) a0.Client a0.Session a0.Rect)
       else
        some (Command.mk a0.Kind 0 0 0 (Point.mk 0 0) (A4.mk (Field.mk 0 ByteArray.empty) (Field.mk 0 ByteArray.empty) (Field.mk 0 ByteArray.empty) (Field.mk 0 ByteArray.empty)) (Field.mk 0 ByteArray.empty) a0.Client a0.Session (Rect.mk 0 0 0 0))
theorem F61_ok (n : Nat) (a0 : Command) : ∀ r, F61 n a0 = some r → D 61 [.agg (Command.cells a0)] [] = some (F61_e r) := by
 refine fn_to (D := D) (n := n + 8) (nt := 60) (rs := pc61_r) (c := p61c40) (L := (W141 a0)) (M := []) (k := 0) rfl rfl rfl rfl rfl rfl rfl ?_
 unfold F61
 refine Sim.sr 2 [(2, qp 2 0), (1, qp 1 0)] [(2, some (.cells W0)), (1, some (.cells (Command.cells a0)))] (.sr 9 [(3, qp 3 0), (10, .agg (w1 a0)), (9, qj a0.Session), (8, qp 1 17), (7, qj a0.Client), (6, qp 1 16), (5, qj a0.Kind), (4, qp 1 0)] [(3, some (.cells (w1 a0))), (3, some (.cells W0))] (.seq (.sr 2 [(12, qj a0.Kind), (11, qp 1 0)] [] (.block (.sr 2 (rp [13, 14] (qb (a0.Kind == 1))) [] (.cd _ ?_ ?_))))))
 ·exact Sim.region0 (.rd 8 [(20, qp 3 6), (19, qp 3 4), (18, .agg (A4_Field.cells a0.F)), (17, qp 1 6), (16, .agg [lj a0.At.X, lj a0.At.Y]), (15, qp 1 4)] [(3, some (.cells (W22 a0))), (3, some (.cells [lj a0.Kind, lj 0, lj 0, lj 0, lj a0.At.X, lj a0.At.Y, lj 0, ls be, lj 0, ls be, lj 0, ls be, lj 0, ls be, lj 0, ls be, lj a0.Client, lj a0.Session, lj 0, lj 0, lj 0, lj 0]))] (.blockN (.thenN (.sr 2 [(59, .agg (W22 a0))] [(2, some (.cells (W22 a0)))] (.ret .fn)))))
 ·refine Sim.sr 2 (rp [21, 22] (qb (a0.Kind == 2))) [] (.cd _ ?_ ?_)
  ·exact Sim.region0 (.rd 8 [(28, qp 3 4), (27, qp 3 1), (26, .agg [lj a0.At.X, lj a0.At.Y]), (25, qp 1 4), (24, qj a0.ID), (23, qp 1 1)] [(3, some (.cells (w4 a0))), (3, some (.cells (w3 a0)))] (.blockN (.thenN (.sr 2 [(59, .agg (w4 a0))] [(2, some (.cells (w4 a0)))] (.ret .fn)))))
  ·refine Sim.sr 2 (rp [29, 30] (qb (a0.Kind == 3))) [] (.cd _ ?_ ?_)
   ·exact Sim.region0 (.rd 12 [(39, qp 3 14), (38, qp 3 2), (37, qp 3 1), (36, .agg [lj a0.Value.N, ls a0.Value.Text]), (35, qp 1 14), (34, qj a0.Which), (33, qp 1 2), (32, qj a0.ID), (31, qp 1 1)] [(3, some (.cells (w5 a0))), (3, some (.cells [lj a0.Kind, lj a0.ID, lj a0.Which, lj 0, lj 0, lj 0, lj 0, ls be, lj 0, ls be, lj 0, ls be, lj 0, ls be, lj 0, ls be, lj a0.Client, lj a0.Session, lj 0, lj 0, lj 0, lj 0])), (3, some (.cells (w3 a0)))] (.blockN (.thenN (.sr 2 [(59, .agg (w5 a0))] [(2, some (.cells (w5 a0)))] (.ret .fn)))))
   ·refine Sim.sr 2 (rp [40, 41] (qb (a0.Kind == 4))) [] (.cd _ ?_ ?_)
    ·exact Sim.region0 (.rd 4 [(44, qp 3 1), (43, qj a0.ID), (42, qp 1 1)] [(3, some (.cells (w3 a0)))] (.blockN (.thenN (.sr 2 [(59, .agg (w3 a0))] [(2, some (.cells (w3 a0)))] (.ret .fn)))))
    ·refine Sim.sr 2 (rp [45, 46] (qb (a0.Kind == 5))) [] (.cd _ ?_ ?_)
     ·exact Sim.region0 (.rd 8 [(52, qp 3 3), (51, qp 3 2), (50, qj a0.To), (49, qp 1 3), (48, qj a0.Which), (47, qp 1 2)] [(3, some (.cells (w6 a0))), (3, some (.cells [lj a0.Kind, lj 0, lj a0.Which, lj 0, lj 0, lj 0, lj 0, ls be, lj 0, ls be, lj 0, ls be, lj 0, ls be, lj 0, ls be, lj a0.Client, lj a0.Session, lj 0, lj 0, lj 0, lj 0]))] (.blockN (.thenN (.sr 2 [(59, .agg (w6 a0))] [(2, some (.cells (w6 a0)))] (.ret .fn)))))
     ·refine Sim.seq (.sr 2 (rp [53, 54] (qb (a0.Kind == 6))) [] (.cd _ ?_ ?_))
      ·refine Sim.skip (.thenN (.cd _ ?_ ?_))
       ·exact Sim.region0 (.rd 4 [(58, qp 3 18), (57, .agg (Rect.cells a0.Rect)), (56, qp 1 18)] [(3, some (.cells (w2 a0)))] (.blockN (.thenN (.sr 2 [(59, .agg (w2 a0))] [(2, some (.cells (w2 a0)))] (.ret .fn)))))
       ·exact Sim.skip (.blockN (.thenN (.sr 2 [(59, .agg (w1 a0))] [(2, some (.cells (w1 a0)))] (.ret .fn))))
      ·refine Sim.region0 (.rd 2 (rp [53, 55] (qb (a0.Kind == 7))) [] (.thenN (.cd _ ?_ ?_)))
       ·exact Sim.region0 (.rd 4 [(58, qp 3 18), (57, .agg (Rect.cells a0.Rect)), (56, qp 1 18)] [(3, some (.cells (w2 a0)))] (.blockN (.thenN (.sr 2 [(59, .agg (w2 a0))] [(2, some (.cells (w2 a0)))] (.ret .fn)))))
       ·exact Sim.skip (.blockN (.thenN (.sr 2 [(59, .agg (w1 a0))] [(2, some (.cells (w1 a0)))] (.ret .fn))))
def F62_e : Bool → PV × List Ob := fun r => (.one (lb r), [])
def F62_l4 (n : Nat) (a0 : (List Int)) : Nat → Int → Option Bool
 | 0, _ => none
 | m + 1, i3 =>
  if decide (i3 < ((a0).length : Int)) then
   (ix a0 i3).bind fun (x5 : Int) =>
   if decide (((-1000) : Int) ≤ x5) then
    if decide (x5 ≤ 1000) then
     (F62_l4 n a0 m) (IntKind.wrap .i64 (i3 + 1))
    else
     some false
   else
    some false
  else
   some true
theorem F62_l4_ok (n : Nat) (a0 : (List Int)) : ∀ (m : Nat) (i3 : Int), SimL Try.prog D (n + 8) m p62c23 [(5, .one (vw (codI .i64) a0)), (6, qj ((a0).length : Int)), (7, qj i3)] [] (F62_l4 n a0 m i3) (QB 0 (QT Try.prog D (n + 8) p62c29 (QF false pc62_r 0 F62_e))) := by
 intro m_l4
 induction m_l4 with
 | zero => intro i3; exact SimL.zero'  rfl
 | succ m_l4 ih_l4 =>
  intro i3
  refine SimL.succ ?_
  unfold F62_l4
  refine Sim.seq (.rg [(5, .one (vw (codI .i64) a0)), (6, qj ((a0).length : Int)), (7, qj i3)] [] (.rd 1 [(8, qb (decide (i3 < ((a0).length : Int))))] [] (.thenN (.seq (.cd _ ?_ ?_)))))
  ·refine Sim.skip (.thenN (.seq (.block (.seq (.region0 (.bn ⟨some 9, .iaddrS 1 5 7, none, []⟩ (fun x5 => [(9, .one (.eptr ((codI .i64).enc x5) 0))]) (fun x5 => []) (fun x5 hr => pe (ei (c := (codI .i64)) (k := .i64) hr)) (fun x5 => ?_)))))))
   refine SimI.rd 2 [(4, qj x5), (10, qj x5)] [] (.thenN (.seq (.st 3 (rp [13, 12] (qb (decide (((-1000) : Int) ≤ x5))) ++ [(11, qj x5)]) [] (.sp 13 _ ?_ ?_))))
   ·refine SimI.rd 3 (rp [16, 15] (qb (decide (x5 ≤ 1000))) ++ [(14, qj x5)]) [] (.thenN (.cd _ ?_ ?_))
    ·refine Sim.exit (.thenX (.blockX (.thenN (.region0 (.rd 2 (rp [7, 17] (qj (iw .i64 (i3 + 1)))) [] (.loopN (.pr [5, 6, 7] [] [] [(5, .one (vw (codI .i64) a0)), (6, qj ((a0).length : Int)), (7, qj (iw .i64 (i3 + 1)))] [] ?_)))))))
     exact ih_l4 (iw .i64 (i3 + 1))
    ·exact Sim.skip (.thenN (.sr 1 [(2, qb false)] [] (.ret (.blockR (.thenR (.loopR (.blockR (.thenR .fn))))))))
   ·exact SimI.rd 3 [(16, qb false), (15, tz), (14, tz)] [] (.thenN (.cf (.skip (.thenN (.sr 1 [(2, qb false)] [] (.ret (.blockR (.thenR (.loopR (.blockR (.thenR .fn)))))))))))
  ·exact Sim.exit (.thenX (.loopX (.blockX (.thenN (.sr 1 [(2, qb true)] [] (.ret .fn))))))
def F62 (n : Nat) (a0 : (List Int)) : Option Bool :=
 F62_l4 n a0 (n + 8) 0
theorem F62_ok (n : Nat) (a0 : (List Int)) : ∀ r, F62 n a0 = some r → D 62 [.one (vw (codI .i64) a0)] [] = some (F62_e r) := by
 refine fn_to (D := D) (n := n + 8) (nt := 18) (rs := pc62_r) (c := p62c33) (L := [(0, .one (vw (codI .i64) a0))]) (M := []) (k := 0) rfl rfl rfl rfl rfl rfl rfl ?_
 unfold F62
 refine Sim.sr 1 [(2, qb false)] [] (.scope (.seq (.label (.thenN (.seq (.sr 3 [(7, qj 0), (6, qj ((a0).length : Int)), (5, .one (vw (codI .i64) a0))] [] (.block (.loop (.pr [5, 6, 7] [] [] [(5, .one (vw (codI .i64) a0)), (6, qj ((a0).length : Int)), (7, qj 0)] [] ?_)))))))))
 exact F62_l4_ok n a0 (n + 8) 0
def F32_e : Bool → PV × List Ob := fun r => (.one (lb r), [])
def F32_j12 (n : Nat) (a0 : Command) (b6 b8 b11 : Bool) : Option Bool :=
  if b6 then
   if b8 then
    if b11 then
     (F62 n [a0.At.X, a0.At.Y, a0.Rect.X0, a0.Rect.Y0, a0.Rect.X1, a0.Rect.Y1]).bind fun (r13 : Bool) =>
     some r13
    else
     some false
   else
    some false
  else
   some false
theorem F32_j12_ok (n : Nat) (a0 : Command) (b6 b8 b11 : Bool) : Sim Try.prog D (n + 8) p32c29 [(1, qp 1 0), (5, qb b6), (6, qb b8), (7, qb b11)] (W7 a0) (F32_j12 n a0 b6 b8 b11) (QF false pc32_r 0 F32_e) := by
  unfold F32_j12
  refine Sim.seq (.rs (.rn 2 [(83, qb b6), (82, qb b6)] [] (.sp 83 _ ?_ ?_)))
  ·refine SimI.rn 3 [(86, qb b8), (85, qb b8), (84, qb b8)] [] (.sp 86 _ ?_ ?_)
   ·refine SimI.rn 3 (rp [89, 88, 87] (qb b11)) [] (.sp 89 _ ?_ ?_)
    ·refine SimI.rn 19 [(108, .one (vw (codI .i64) [a0.At.X, a0.At.Y, a0.Rect.X0, a0.Rect.Y0, a0.Rect.X1, a0.Rect.Y1])), (107, qj a0.Rect.Y1), (106, qp 1 21), (105, qp 1 18), (104, qj a0.Rect.X1), (103, qp 1 20), (102, qp 1 18), (101, qj a0.Rect.Y0), (100, qp 1 19), (99, qp 1 18), (98, qj a0.Rect.X0), (97, qp 1 18), (96, qp 1 18), (95, qj a0.At.Y), (94, qp 1 5), (93, qp 1 4), (92, qj a0.At.X), (91, qp 1 4), (90, qp 1 4)] [] (.cl 109 true [[(0, 1)]] 62 [108] (some (89, true)) (fun r13 => qb r13) [.one (vw (codI .i64) [a0.At.X, a0.At.Y, a0.Rect.X0, a0.Rect.Y0, a0.Rect.X1, a0.Rect.Y1])] (F62_ok _ _) (fun r13 => ?_))
     exact SimI.rd 2 [(2, qb r13), (110, qb r13)] [] (.thenN (.ret .fn))
    ·exact SimI.rd 22 ([(2, qb false), (110, qb false)] ++ rp W75 tz) [] (.thenN (.ret .fn))
   ·exact SimI.rd 25 ([(2, qb false), (110, qb false)] ++ rp W75 tz ++ [(89, qb false), (88, qb false), (87, tz)]) [] (.thenN (.ret .fn))
  ·exact SimI.rd 28 ([(2, qb false), (110, qb false)] ++ rp W75 tz ++ [(89, qb false), (88, qb false), (87, tz), (86, qb false), (85, qb false), (84, tz)]) [] (.thenN (.ret .fn))
def F32_j9 (n : Nat) (a0 : Command) (b6 b8 : Bool) : Option Bool :=
  if decide ((0 : Int) ≤ a0.ID) then
   if decide (a0.ID ≤ 1000000) then
    if decide (((-1) : Int) ≤ a0.Which) then
     if decide (a0.Which ≤ 100) then
      if decide (((-1) : Int) ≤ a0.To) then
       if decide (a0.To ≤ 100) then
        (F60 n a0.Value).bind fun (r10 : Bool) =>
        F32_j12 n a0 b6 b8 r10
       else
        F32_j12 n a0 b6 b8 false
      else
       F32_j12 n a0 b6 b8 false
     else
      F32_j12 n a0 b6 b8 false
    else
     F32_j12 n a0 b6 b8 false
   else
    F32_j12 n a0 b6 b8 false
  else
   F32_j12 n a0 b6 b8 false
theorem F32_j9_ok (n : Nat) (a0 : Command) (b6 b8 : Bool) : Sim Try.prog D (n + 8) p32c30 [(1, qp 1 0), (5, qb b6), (6, qb b8)] (W7 a0) (F32_j9 n a0 b6 b8) (QF false pc32_r 0 F32_e) := by
  unfold F32_j9
  refine Sim.seq (.rs (.rn 4 (rp [52, 51] (qb (decide ((0 : Int) ≤ a0.ID))) ++ [(50, qj a0.ID), (49, qp 1 1)]) [] (.sp 52 _ ?_ ?_)))
  ·refine SimI.rn 5 (rp [57, 56, 55] (qb (decide (a0.ID ≤ 1000000))) ++ [(54, qj a0.ID), (53, qp 1 1)]) [] (.sp 57 _ ?_ ?_)
   ·refine SimI.rn 5 (rp [62, 61, 60] (qb (decide (((-1) : Int) ≤ a0.Which))) ++ [(59, qj a0.Which), (58, qp 1 2)]) [] (.sp 62 _ ?_ ?_)
    ·refine SimI.rn 5 (rp [67, 66, 65] (qb (decide (a0.Which ≤ 100))) ++ [(64, qj a0.Which), (63, qp 1 2)]) [] (.sp 67 _ ?_ ?_)
     ·refine SimI.rn 5 (rp [72, 71, 70] (qb (decide (((-1) : Int) ≤ a0.To))) ++ [(69, qj a0.To), (68, qp 1 3)]) [] (.sp 72 _ ?_ ?_)
      ·refine SimI.rn 5 (rp [77, 76, 75] (qb (decide (a0.To ≤ 100))) ++ [(74, qj a0.To), (73, qp 1 3)]) [] (.sp 77 _ ?_ ?_)
       ·refine SimI.rn 2 [(79, .agg [lj a0.Value.N, ls a0.Value.Text]), (78, qp 1 14)] [] (.cl 80 true [[]] 60 [79] (some (77, true)) (fun r10 => qb r10) [.agg [lj a0.Value.N, ls a0.Value.Text]] (F60_ok _ _) (fun r10 => ?_))
        refine SimI.rd 2 [(7, qb r10), (81, qb r10)] [] (.thenN (.pr [1, 5, 6, 7] [1] [] [(1, qp 1 0), (5, qb b6), (6, qb b8), (7, qb r10)] (W7 a0) ?_))
        exact F32_j12_ok n a0 b6 b8 r10
       ·refine SimI.rd 5 [(7, qb false), (81, qb false), (80, tz), (79, tz), (78, tz)] [] (.thenN (.pr [1, 5, 6, 7] [1] [] (W87 b6 b8) (W7 a0) ?_))
        exact F32_j12_ok n a0 b6 b8 false
      ·refine SimI.rd 10 [(7, qb false), (81, qb false), (80, tz), (79, tz), (78, tz), (77, qb false), (76, qb false), (75, tz), (74, tz), (73, tz)] [] (.thenN (.pr [1, 5, 6, 7] [1] [] (W87 b6 b8) (W7 a0) ?_))
       exact F32_j12_ok n a0 b6 b8 false
     ·refine SimI.rd 15 [(7, qb false), (81, qb false), (80, tz), (79, tz), (78, tz), (77, qb false), (76, qb false), (75, tz), (74, tz), (73, tz), (72, qb false), (71, qb false), (70, tz), (69, tz), (68, tz)] [] (.thenN (.pr [1, 5, 6, 7] [1] [] (W87 b6 b8) (W7 a0) ?_))
      exact F32_j12_ok n a0 b6 b8 false
    ·refine SimI.rd 20 [(7, qb false), (81, qb false), (80, tz), (79, tz), (78, tz), (77, qb false), (76, qb false), (75, tz), (74, tz), (73, tz), (72, qb false), (71, qb false), (70, tz), (69, tz), (68, tz), (67, qb false), (66, qb false), (65, tz), (64, tz), (63, tz)] [] (.thenN (.pr [1, 5, 6, 7] [1] [] (W87 b6 b8) (W7 a0) ?_))
     exact F32_j12_ok n a0 b6 b8 false
   ·refine SimI.rd 25 [(7, qb false), (81, qb false), (80, tz), (79, tz), (78, tz), (77, qb false), (76, qb false), (75, tz), (74, tz), (73, tz), (72, qb false), (71, qb false), (70, tz), (69, tz), (68, tz), (67, qb false), (66, qb false), (65, tz), (64, tz), (63, tz), (62, qb false), (61, qb false), (60, tz), (59, tz), (58, tz)] [] (.thenN (.pr [1, 5, 6, 7] [1] [] (W87 b6 b8) (W7 a0) ?_))
    exact F32_j12_ok n a0 b6 b8 false
  ·refine SimI.rd 30 [(7, qb false), (81, qb false), (80, tz), (79, tz), (78, tz), (77, qb false), (76, qb false), (75, tz), (74, tz), (73, tz), (72, qb false), (71, qb false), (70, tz), (69, tz), (68, tz), (67, qb false), (66, qb false), (65, tz), (64, tz), (63, tz), (62, qb false), (61, qb false), (60, tz), (59, tz), (58, tz), (57, qb false), (56, qb false), (55, tz), (54, tz), (53, tz)] [] (.thenN (.pr [1, 5, 6, 7] [1] [] (W87 b6 b8) (W7 a0) ?_))
   exact F32_j12_ok n a0 b6 b8 false
def F32_j7 (n : Nat) (a0 : Command) (b6 : Bool) : Option Bool :=
  if decide ((0 : Int) ≤ a0.Client) then
   if decide (a0.Client < 4) then
    if decide ((0 : Int) ≤ a0.Session) then
     F32_j9 n a0 b6 (decide (a0.Session ≤ 1000000))
    else
     F32_j9 n a0 b6 false
   else
    F32_j9 n a0 b6 false
  else
   F32_j9 n a0 b6 false
theorem F32_j7_ok (n : Nat) (a0 : Command) (b6 : Bool) : Sim Try.prog D (n + 8) p32c31 [(1, qp 1 0), (5, qb b6)] (W7 a0) (F32_j7 n a0 b6) (QF false pc32_r 0 F32_e) := by
  unfold F32_j7
  refine Sim.seq (.rs (.rn 4 (rp [34, 33] (qb (decide ((0 : Int) ≤ a0.Client))) ++ [(32, qj a0.Client), (31, qp 1 16)]) [] (.sp 34 _ ?_ ?_)))
  ·refine SimI.rn 5 (rp [39, 38, 37] (qb (decide (a0.Client < 4))) ++ [(36, qj a0.Client), (35, qp 1 16)]) [] (.sp 39 _ ?_ ?_)
   ·refine SimI.rn 5 (rp [44, 43, 42] (qb (decide ((0 : Int) ≤ a0.Session))) ++ [(41, qj a0.Session), (40, qp 1 17)]) [] (.sp 44 _ ?_ ?_)
    ·refine SimI.rd 5 (rp [6, 48, 47] (qb (decide (a0.Session ≤ 1000000))) ++ [(46, qj a0.Session), (45, qp 1 17)]) [] (.thenN (.pr [1, 5, 6] [1] [] [(1, qp 1 0), (5, qb b6), (6, qb (decide (a0.Session ≤ 1000000)))] (W7 a0) ?_))
     exact F32_j9_ok n a0 b6 (decide (a0.Session ≤ 1000000))
    ·refine SimI.rd 5 [(6, qb false), (48, qb false), (47, tz), (46, tz), (45, tz)] [] (.thenN (.pr [1, 5, 6] [1] [] [(1, qp 1 0), (5, qb b6), (6, qb false)] (W7 a0) ?_))
     exact F32_j9_ok n a0 b6 false
   ·refine SimI.rd 10 [(6, qb false), (48, qb false), (47, tz), (46, tz), (45, tz), (44, qb false), (43, qb false), (42, tz), (41, tz), (40, tz)] [] (.thenN (.pr [1, 5, 6] [1] [] [(1, qp 1 0), (5, qb b6), (6, qb false)] (W7 a0) ?_))
    exact F32_j9_ok n a0 b6 false
  ·refine SimI.rd 15 [(6, qb false), (48, qb false), (47, tz), (46, tz), (45, tz), (44, qb false), (43, qb false), (42, tz), (41, tz), (40, tz), (39, qb false), (38, qb false), (37, tz), (36, tz), (35, tz)] [] (.thenN (.pr [1, 5, 6] [1] [] [(1, qp 1 0), (5, qb b6), (6, qb false)] (W7 a0) ?_))
   exact F32_j9_ok n a0 b6 false
def F32 (n : Nat) (a0 : Command) : Option Bool :=
 (F60 n a0.F.a0).bind fun (r1 : Bool) =>
 if !(r1) then
  some false
 else
  (F60 n a0.F.a1).bind fun (r2 : Bool) =>
  if !(r2) then
   some false
  else
   (F60 n a0.F.a2).bind fun (r3 : Bool) =>
   if !(r3) then
    some false
   else
    (F60 n a0.F.a3).bind fun (r4 : Bool) =>
    if !(r4) then
     some false
    else
     if decide ((1 : Int) ≤ a0.Kind) then
      if decide (a0.Kind ≤ 8) then
       (F61 n a0).bind fun (r5 : Command) =>
       F32_j7 n a0 (Command.eqb a0 r5)
      else
       F32_j7 n a0 false
     else
      F32_j7 n a0 false
theorem F32_ok (n : Nat) (a0 : Command) : ∀ r, F32 n a0 = some r → D 32 [.agg (Command.cells a0)] [] = some (F32_e r) := by
 refine fn_to (D := D) (n := n + 8) (nt := 111) (rs := pc32_r) (c := p32c34) (L := (W141 a0)) (M := []) (k := 0) rfl rfl rfl rfl rfl rfl rfl ?_
 unfold F32
 refine Sim.sr 2 W56 (W7 a0) (.seq (.sr 3 [(10, qj 0), (9, .agg (A4_Field.cells a0.F)), (8, qp 1 6)] [] (.block (.loop (.succ (.seq (.rg [(1, qp 1 0), (9, .agg (A4_Field.cells a0.F)), (10, qj 0)] (W7 a0) (.rd 1 [(11, qb true)] [] (.thenN (.seq (.ct (.skip (.thenN (.seq (.block (.sr 3 [(4, qp 4 0), (12, .agg [lj a0.F.a0.N, ls a0.F.a0.Text])] [(4, some (.cells [lj a0.F.a0.N, ls a0.F.a0.Text])), (4, some (.cells [lj 0, ls be]))] (.st 1 [(13, .agg [lj a0.F.a0.N, ls a0.F.a0.Text])] [] (.cl 14 true [[]] 60 [13] none (fun r1 => qb r1) [.agg [lj a0.F.a0.N, ls a0.F.a0.Text]] (F60_ok _ _) (fun r1 => ?_)))))))))))))))))))
 refine SimI.rd 1 [(15, qb (!(r1)))] [] (.thenN (.cd _ ?_ ?_))
 ·exact Sim.sr 1 [(2, qb false)] [] (.ret (.blockR (.thenR (.loopR (.blockR (.thenR .fn))))))
 ·refine Sim.skip (.blockN (.thenN (.region0 (.rd 2 [(10, qj 1), (16, qj 1)] [] (.loopN (.succ (.seq (.rg [(1, qp 1 0), (9, .agg (A4_Field.cells a0.F)), (10, qj 1)] (W7 a0) (.rd 1 [(11, qb true)] [] (.thenN (.seq (.ct (.skip (.thenN (.seq (.block (.sr 3 [(4, qp 4 0), (12, .agg [lj a0.F.a1.N, ls a0.F.a1.Text])] [(4, some (.cells [lj a0.F.a1.N, ls a0.F.a1.Text])), (4, some (.cells [lj 0, ls be]))] (.st 1 [(13, .agg [lj a0.F.a1.N, ls a0.F.a1.Text])] [] (.cl 14 true [[]] 60 [13] none (fun r2 => qb r2) [.agg [lj a0.F.a1.N, ls a0.F.a1.Text]] (F60_ok _ _) (fun r2 => ?_))))))))))))))))))))
  refine SimI.rd 1 [(15, qb (!(r2)))] [] (.thenN (.cd _ ?_ ?_))
  ·exact Sim.sr 1 [(2, qb false)] [] (.ret (.blockR (.thenR (.loopR (.blockR (.thenR .fn))))))
  ·refine Sim.skip (.blockN (.thenN (.region0 (.rd 2 [(10, qj 2), (16, qj 2)] [] (.loopN (.succ (.seq (.rg [(1, qp 1 0), (9, .agg (A4_Field.cells a0.F)), (10, qj 2)] (W7 a0) (.rd 1 [(11, qb true)] [] (.thenN (.seq (.ct (.skip (.thenN (.seq (.block (.sr 3 [(4, qp 4 0), (12, .agg [lj a0.F.a2.N, ls a0.F.a2.Text])] [(4, some (.cells [lj a0.F.a2.N, ls a0.F.a2.Text])), (4, some (.cells [lj 0, ls be]))] (.st 1 [(13, .agg [lj a0.F.a2.N, ls a0.F.a2.Text])] [] (.cl 14 true [[]] 60 [13] none (fun r3 => qb r3) [.agg [lj a0.F.a2.N, ls a0.F.a2.Text]] (F60_ok _ _) (fun r3 => ?_))))))))))))))))))))
   refine SimI.rd 1 [(15, qb (!(r3)))] [] (.thenN (.cd _ ?_ ?_))
   ·exact Sim.sr 1 [(2, qb false)] [] (.ret (.blockR (.thenR (.loopR (.blockR (.thenR .fn))))))
   ·refine Sim.skip (.blockN (.thenN (.region0 (.rd 2 [(10, qj 3), (16, qj 3)] [] (.loopN (.succ (.seq (.rg [(1, qp 1 0), (9, .agg (A4_Field.cells a0.F)), (10, qj 3)] (W7 a0) (.rd 1 [(11, qb true)] [] (.thenN (.seq (.ct (.skip (.thenN (.seq (.block (.sr 3 [(4, qp 4 0), (12, .agg [lj a0.F.a3.N, ls a0.F.a3.Text])] [(4, some (.cells [lj a0.F.a3.N, ls a0.F.a3.Text])), (4, some (.cells [lj 0, ls be]))] (.st 1 [(13, .agg [lj a0.F.a3.N, ls a0.F.a3.Text])] [] (.cl 14 true [[]] 60 [13] none (fun r4 => qb r4) [.agg [lj a0.F.a3.N, ls a0.F.a3.Text]] (F60_ok _ _) (fun r4 => ?_))))))))))))))))))))
    refine SimI.rd 1 [(15, qb (!(r4)))] [] (.thenN (.cd _ ?_ ?_))
    ·exact Sim.sr 1 [(2, qb false)] [] (.ret (.blockR (.thenR (.loopR (.blockR (.thenR .fn))))))
    ·refine Sim.skip (.blockN (.thenN (.region0 (.rd 2 [(10, qj 4), (16, qj 4)] [] (.loopN (.succ (.seq (.rg [(1, qp 1 0), (9, .agg (A4_Field.cells a0.F)), (10, qj 4)] (W7 a0) (.rd 1 [(11, qb false)] [] (.thenN (.seq (.cf (.exit (.thenX (.loopX (.blockX (.thenN (.st 4 (rp [20, 19] (qb (decide ((1 : Int) ≤ a0.Kind))) ++ [(18, qj a0.Kind), (17, qp 1 0)]) [] (.sp 20 _ ?_ ?_)))))))))))))))))))
     ·refine SimI.rn 5 (rp [25, 24, 23] (qb (decide (a0.Kind ≤ 8))) ++ [(22, qj a0.Kind), (21, qp 1 0)]) [] (.sp 25 _ ?_ ?_)
      ·refine SimI.rn 2 (rp [27, 26] (.agg (Command.cells a0))) [] (.cm 28 false [[]] 61 [27] (some (25, true)) [(27, .imm)] (F61_ok _ _) (fun r5 => ?_))
       refine SimI.se ⟨some 29, .prim (.bin .eql 53 false false) [26, 28], some (25, true), [(26, .imm), (28, .imm)]⟩ [(29, qb (Command.eqb a0 r5))] [] (pe (ep (Command_eql a0 r5 _ _))) (.rd 2 (rp [5, 30] (qb (Command.eqb a0 r5))) [] (.thenN (.pr [1, 5] [1] [] [(1, qp 1 0), (5, qb (Command.eqb a0 r5))] (W7 a0) ?_)))
       exact F32_j7_ok n a0 (Command.eqb a0 r5)
      ·refine SimI.rd 6 [(5, qb false), (30, qb false), (29, tz), (28, tz), (27, tz), (26, tz)] [] (.thenN (.pr [1, 5] [1] [] [(1, qp 1 0), (5, qb false)] (W7 a0) ?_))
       exact F32_j7_ok n a0 false
     ·refine SimI.rd 11 [(5, qb false), (30, qb false), (29, tz), (28, tz), (27, tz), (26, tz), (25, qb false), (24, qb false), (23, tz), (22, tz), (21, tz)] [] (.thenN (.pr [1, 5] [1] [] [(1, qp 1 0), (5, qb false)] (W7 a0) ?_))
      exact F32_j7_ok n a0 false
def F33_e : Bool → PV × List Ob := fun r => (.one (lb r), [])
def F33 (n : Nat) (a0 : Command) : Option Bool :=
 if decide ((6 : Int) ≤ a0.Kind) then
  some (decide (a0.Kind ≤ 8))
 else
  some false
theorem F33_ok (n : Nat) (a0 : Command) : ∀ r, F33 n a0 = some r → D 33 [.agg (Command.cells a0)] [] = some (F33_e r) := by
 refine fn_to (D := D) (n := n + 8) (nt := 11) (rs := pc33_r) (c := p33c5) (L := (W141 a0)) (M := []) (k := 0) rfl rfl rfl rfl rfl rfl rfl ?_
 unfold F33
 refine Sim.sr 2 W56 (W7 a0) (.st 4 (rp [6, 5] (qb (decide ((6 : Int) ≤ a0.Kind))) ++ [(4, qj a0.Kind), (3, qp 1 0)]) [] (.sp 6 _ ?_ ?_))
 ·exact SimI.rd 5 (rp [2, 10, 9] (qb (decide (a0.Kind ≤ 8))) ++ [(8, qj a0.Kind), (7, qp 1 0)]) [] (.thenN (.ret .fn))
 ·exact SimI.rd 5 [(2, qb false), (10, qb false), (9, tz), (8, tz), (7, tz)] [] (.thenN (.ret .fn))
def F31_e : Bool → PV × List Ob := fun r => (.one (lb r), [])
def F31 (n : Nat) (a0 : Command) : Option Bool :=
 (F32 n a0).bind fun (r1 : Bool) =>
 if !(r1) then
  some true
 else
  (F33 n a0).bind fun (r2 : Bool) =>
  some (!(r2))
theorem F31_ok (n : Nat) (a0 : Command) : ∀ r, F31 n a0 = some r → D 31 [.agg (Command.cells a0)] [] = some (F31_e r) := by
 refine fn_to (D := D) (n := n + 8) (nt := 11) (rs := pc31_r) (c := p31c5) (L := (W141 a0)) (M := []) (k := 0) rfl rfl rfl rfl rfl rfl rfl ?_
 unfold F31
 refine Sim.sr 2 W56 (W7 a0) (.st 1 [(3, .agg (Command.cells a0))] [] (.cl 4 true [[]] 32 [3] none (fun r1 => qb r1) [.agg (Command.cells a0)] (F32_ok _ _) (fun r1 => ?_)))
 refine SimI.rn 2 [(6, qb (!(r1))), (5, qb (!(r1)))] [] (.sp 6 _ ?_ ?_)
 ·exact SimI.rd 5 [(2, qb true), (10, qb true), (9, tz), (8, tz), (7, tz)] [] (.thenN (.ret .fn))
 ·refine SimI.rn 1 [(7, .agg (Command.cells a0))] [] (.cl 8 true [[]] 33 [7] (some (6, false)) (fun r2 => qb r2) [.agg (Command.cells a0)] (F33_ok _ _) (fun r2 => ?_))
  exact SimI.rd 3 (rp [2, 10, 9] (qb (!(r2)))) [] (.thenN (.ret .fn))
def F63_e : Bool → PV × List Ob := fun r => (.one (lb r), [])
def F63 (n : Nat) (a0 : Int) : Option Bool :=
 if decide ((0 : Int) ≤ a0) then
  some (decide (a0 < 16))
 else
  some false
theorem F63_ok (n : Nat) (a0 : Int) : ∀ r, F63 n a0 = some r → D 63 [.one (li .i64 a0)] [] = some (F63_e r) := by
 refine fn_to (D := D) (n := n + 8) (nt := 9) (rs := pc63_r) (c := p63c5) (L := [(0, qj a0)]) (M := []) (k := 0) rfl rfl rfl rfl rfl rfl rfl ?_
 unfold F63
 refine Sim.sr 1 [(2, qb false)] [] (.st 3 (rp [5, 4] (qb (decide ((0 : Int) ≤ a0))) ++ [(3, qj a0)]) [] (.sp 5 _ ?_ ?_))
 ·exact SimI.rd 4 (rp [2, 8, 7] (qb (decide (a0 < 16))) ++ [(6, qj a0)]) [] (.thenN (.ret .fn))
 ·exact SimI.rd 4 [(2, qb false), (8, qb false), (7, tz), (6, tz)] [] (.thenN (.ret .fn))
def F34_e : Bool → PV × List Ob := fun r => (.one (lb r), [])
def F34_l4 (n : Nat) (a0 : (List Hand)) (a1 a2 : Int) : Nat → Int → Option Bool
 | 0, _ => none
 | m + 1, i3 =>
  if decide (i3 < ((a0).length : Int)) then
   (ix a0 i3).bind fun (x5 : Hand) =>
   (F63 n x5.Cell).bind fun (r6 : Bool) =>
   if !(r6) then
    some false
   else
    if decide ((0 : Int) < i3) then
     (ix a0 (IntKind.wrap .i64 (i3 - 1))).bind fun (x7 : Hand) =>
     if decide (x5.Cell ≤ x7.Cell) then
      some false
     else
      if decide (x5.To < 0) then
       some false
      else
       if decide (a2 ≤ x5.To) then
        some false
       else
        if x5.To == a1 then
         some false
        else
         (F34_l4 n a0 a1 a2 m) (IntKind.wrap .i64 (i3 + 1))
    else
     if decide (x5.To < 0) then
      some false
     else
      if decide (a2 ≤ x5.To) then
       some false
      else
       if x5.To == a1 then
        some false
       else
        (F34_l4 n a0 a1 a2 m) (IntKind.wrap .i64 (i3 + 1))
  else
   some true
theorem F34_l4_ok (n : Nat) (a0 : (List Hand)) (a1 a2 : Int) : ∀ (m : Nat) (i3 : Int), SimL Try.prog D (n + 8) m p34c20 [(0, .one (vw Hand.cod a0)), (1, qj a1), (2, qj a2), (9, .one (vw Hand.cod a0)), (10, qj ((a0).length : Int)), (11, qj i3)] [] (F34_l4 n a0 a1 a2 m i3) (QB 0 (QT Try.prog D (n + 8) p34c26 (QF false pc34_r 0 F34_e))) := by
 intro m_l4
 induction m_l4 with
 | zero => intro i3; exact SimL.zero'  rfl
 | succ m_l4 ih_l4 =>
  intro i3
  refine SimL.succ ?_
  unfold F34_l4
  refine Sim.seq (.rg [(0, .one (vw Hand.cod a0)), (1, qj a1), (2, qj a2), (9, .one (vw Hand.cod a0)), (10, qj ((a0).length : Int)), (11, qj i3)] [] (.rd 1 [(12, qb (decide (i3 < ((a0).length : Int))))] [] (.thenN (.seq (.cd _ ?_ ?_)))))
  ·refine Sim.skip (.thenN (.seq (.block (.st 1 [(13, qj i3)] [] (.bn ⟨some 14, .iaddrS 2 9 11, none, []⟩ (fun x5 => [(14, .one (.eptr (Hand.cod.enc x5) 0))]) (fun x5 => []) (fun x5 hr => pe (ei (c := Hand.cod) (k := .i64) hr)) (fun x5 => ?_))))))
   refine SimI.rd 4 [(7, qj i3), (8, qp 8 0), (15, .agg [lj x5.Cell, lj x5.To])] [(8, some (.cells [lj x5.Cell, lj x5.To])), (8, some (.cells [lj 0, lj 0]))] (.thenN (.st 2 [(17, qj x5.Cell), (16, qp 8 0)] [] (.cm 18 false [[]] 63 [17] none [(17, .imm)] (F63_ok _ _) (fun r6 => ?_))))
   refine SimI.rn 2 [(20, qb (!(r6))), (19, qb (!(r6)))] [] (.sp 20 _ ?_ ?_)
   ·exact SimI.rd 31 ([(51, qb true), (50, tz), (49, tz), (48, tz), (47, tz), (46, qb true), (45, qb true), (44, tz), (43, tz), (42, tz), (41, tz), (40, qb true), (39, qb true), (38, tz), (37, tz), (36, tz), (35, qb true), (34, qb true)] ++ rp [33, 32, 31, 30, 29, 28, 27, 26, 25, 24, 23, 22, 21] tz) [] (.thenN (.ct (.sr 1 [(6, qb false)] [] (.ret (.blockR (.thenR (.loopR (.blockR (.thenR .fn)))))))))
   ·refine SimI.rn 3 (rp [23, 22] (qb (decide ((0 : Int) < i3))) ++ [(21, qj i3)]) [] (.sp 23 _ ?_ ?_)
    ·refine SimI.rn 5 [(28, qj (iw .i64 (i3 - 1))), (27, qj i3), (26, .one (vw Hand.cod a0)), (25, qj x5.Cell), (24, qp 8 0)] [] (.bn ⟨some 29, .iaddrS 2 26 28, some (23, true), [(26, .imm), (28, .imm)]⟩ (fun x7 => [(29, .one (.eptr (Hand.cod.enc x7) 0))]) (fun x7 => []) (fun x7 hr => pe (ei (c := Hand.cod) (k := .i64) hr)) (fun x7 => ?_))
     refine SimI.rn 6 (rp [35, 34, 33, 32] (qb (decide (x5.Cell ≤ x7.Cell))) ++ [(31, qj x7.Cell), (30, .one (.eptr (Hand.cod.enc x7) 0))]) [] (.sp 35 _ ?_ ?_)
     ·exact SimI.rd 16 [(51, qb true), (50, tz), (49, tz), (48, tz), (47, tz), (46, qb true), (45, qb true), (44, tz), (43, tz), (42, tz), (41, tz), (40, qb true), (39, qb true), (38, tz), (37, tz), (36, tz)] [] (.thenN (.ct (.sr 1 [(6, qb false)] [] (.ret (.blockR (.thenR (.loopR (.blockR (.thenR .fn)))))))))
     ·refine SimI.rn 5 (rp [40, 39, 38] (qb (decide (x5.To < 0))) ++ [(37, qj x5.To), (36, qp 8 1)]) [] (.sp 40 _ ?_ ?_)
      ·exact SimI.rd 11 W105 [] (.thenN (.ct (.sr 1 [(6, qb false)] [] (.ret (.blockR (.thenR (.loopR (.blockR (.thenR .fn)))))))))
      ·refine SimI.rn 6 (rp [46, 45, 44] (qb (decide (a2 ≤ x5.To))) ++ [(43, qj a2), (42, qj x5.To), (41, qp 8 1)]) [] (.sp 46 _ ?_ ?_)
       ·exact SimI.rd 5 [(51, qb true), (50, tz), (49, tz), (48, tz), (47, tz)] [] (.thenN (.ct (.sr 1 [(6, qb false)] [] (.ret (.blockR (.thenR (.loopR (.blockR (.thenR .fn)))))))))
       ·refine SimI.rd 5 (rp [51, 50] (qb (x5.To == a1)) ++ [(49, qj a1), (48, qj x5.To), (47, qp 8 1)]) [] (.thenN (.cd _ ?_ ?_))
        ·exact Sim.sr 1 [(6, qb false)] [] (.ret (.blockR (.thenR (.loopR (.blockR (.thenR .fn))))))
        ·refine Sim.skip (.blockN (.thenN (.region0 (.rd 2 (rp [11, 52] (qj (iw .i64 (i3 + 1)))) [] (.loopN (.pr [0, 1, 2, 9, 10, 11] [8] [] [(0, .one (vw Hand.cod a0)), (1, qj a1), (2, qj a2), (9, .one (vw Hand.cod a0)), (10, qj ((a0).length : Int)), (11, qj (iw .i64 (i3 + 1)))] [] ?_))))))
         exact ih_l4 (iw .i64 (i3 + 1))
    ·refine SimI.rn 17 (rp [40, 39, 38] (qb (decide (x5.To < 0))) ++ [(37, qj x5.To), (36, qp 8 1)] ++ rp [35, 34, 33] (qb false) ++ rp [32, 31, 30, 29, 28, 27, 26, 25, 24] tz) [] (.sp 40 _ ?_ ?_)
     ·exact SimI.rd 11 W105 [] (.thenN (.ct (.sr 1 [(6, qb false)] [] (.ret (.blockR (.thenR (.loopR (.blockR (.thenR .fn)))))))))
     ·refine SimI.rn 6 (rp [46, 45, 44] (qb (decide (a2 ≤ x5.To))) ++ [(43, qj a2), (42, qj x5.To), (41, qp 8 1)]) [] (.sp 46 _ ?_ ?_)
      ·exact SimI.rd 5 [(51, qb true), (50, tz), (49, tz), (48, tz), (47, tz)] [] (.thenN (.ct (.sr 1 [(6, qb false)] [] (.ret (.blockR (.thenR (.loopR (.blockR (.thenR .fn)))))))))
      ·refine SimI.rd 5 (rp [51, 50] (qb (x5.To == a1)) ++ [(49, qj a1), (48, qj x5.To), (47, qp 8 1)]) [] (.thenN (.cd _ ?_ ?_))
       ·exact Sim.sr 1 [(6, qb false)] [] (.ret (.blockR (.thenR (.loopR (.blockR (.thenR .fn))))))
       ·refine Sim.skip (.blockN (.thenN (.region0 (.rd 2 (rp [11, 52] (qj (iw .i64 (i3 + 1)))) [] (.loopN (.pr [0, 1, 2, 9, 10, 11] [8] [] [(0, .one (vw Hand.cod a0)), (1, qj a1), (2, qj a2), (9, .one (vw Hand.cod a0)), (10, qj ((a0).length : Int)), (11, qj (iw .i64 (i3 + 1)))] [] ?_))))))
        exact ih_l4 (iw .i64 (i3 + 1))
  ·exact Sim.exit (.thenX (.loopX (.blockX (.thenN (.sr 1 [(6, qb true)] [] (.ret .fn))))))
def F34 (n : Nat) (a0 : (List Hand)) (a1 a2 : Int) : Option Bool :=
 F34_l4 n a0 a1 a2 (n + 8) 0
theorem F34_ok (n : Nat) (a0 : (List Hand)) (a1 a2 : Int) : ∀ r, F34 n a0 a1 a2 = some r → D 34 [.one (vw Hand.cod a0), .one (li .i64 a1), .one (li .i64 a2)] [] = some (F34_e r) := by
 refine fn_to (D := D) (n := n + 8) (nt := 53) (rs := pc34_r) (c := p34c28) (L := [(0, .one (vw Hand.cod a0)), (1, qj a1), (2, qj a2)]) (M := []) (k := 0) rfl rfl rfl rfl rfl rfl rfl ?_
 unfold F34
 refine Sim.sr 1 [(6, qb false)] [] (.seq (.sr 3 [(11, qj 0), (10, qj ((a0).length : Int)), (9, .one (vw Hand.cod a0))] [] (.block (.loop (.pr [0, 1, 2, 9, 10, 11] [8] [] [(0, .one (vw Hand.cod a0)), (1, qj a1), (2, qj a2), (9, .one (vw Hand.cod a0)), (10, qj ((a0).length : Int)), (11, qj 0)] [] ?_)))))
 exact F34_l4_ok n a0 a1 a2 (n + 8) 0
def F78_e : Bool → PV × List Ob := fun r => (.one (lb r), [])
def F78 (n : Nat) (a0 : Point) : Option Bool :=
 if decide ((0 : Int) ≤ a0.X) then
  if decide (a0.X < 64) then
   if decide ((0 : Int) ≤ a0.Y) then
    some (decide (a0.Y < 64))
   else
    some false
  else
   some false
 else
  some false
theorem F78_ok (n : Nat) (a0 : Point) : ∀ r, F78 n a0 = some r → D 78 [.agg [li .i64 a0.X, li .i64 a0.Y]] [] = some (F78_e r) := by
 refine fn_to (D := D) (n := n + 8) (nt := 21) (rs := pc78_r) (c := p78c5) (L := [(0, .agg [lj a0.X, lj a0.Y])]) (M := []) (k := 0) rfl rfl rfl rfl rfl rfl rfl ?_
 unfold F78
 refine Sim.sr 2 W56 [(1, some (.cells [lj a0.X, lj a0.Y]))] (.st 4 (rp [6, 5] (qb (decide ((0 : Int) ≤ a0.X))) ++ [(4, qj a0.X), (3, qp 1 0)]) [] (.sp 6 _ ?_ ?_))
 ·refine SimI.rn 5 (rp [11, 10, 9] (qb (decide (a0.X < 64))) ++ [(8, qj a0.X), (7, qp 1 0)]) [] (.sp 11 _ ?_ ?_)
  ·refine SimI.rn 5 (rp [16, 15, 14] (qb (decide ((0 : Int) ≤ a0.Y))) ++ [(13, qj a0.Y), (12, qp 1 1)]) [] (.sp 16 _ ?_ ?_)
   ·exact SimI.rd 5 (rp [2, 20, 19] (qb (decide (a0.Y < 64))) ++ [(18, qj a0.Y), (17, qp 1 1)]) [] (.thenN (.ret .fn))
   ·exact SimI.rd 5 [(2, qb false), (20, qb false), (19, tz), (18, tz), (17, tz)] [] (.thenN (.ret .fn))
  ·exact SimI.rd 10 [(2, qb false), (20, qb false), (19, tz), (18, tz), (17, tz), (16, qb false), (15, qb false), (14, tz), (13, tz), (12, tz)] [] (.thenN (.ret .fn))
 ·exact SimI.rd 15 [(2, qb false), (20, qb false), (19, tz), (18, tz), (17, tz), (16, qb false), (15, qb false), (14, tz), (13, tz), (12, tz), (11, qb false), (10, qb false), (9, tz), (8, tz), (7, tz)] [] (.thenN (.ret .fn))
def F94_e : Int → PV × List Ob := fun r => (.one (li .u32 r), [])
def F94 (n : Nat) (a0 : Int) : Option Int :=
 some (bitsI .and .u32 (bitsI .or .u32 (bitsI .and .u32 (bitsI .or .u32 (bitsI .and .u32 (bitsI .or .u32 (bitsI .and .u32 (bitsI .or .u32 a0 (shlI .u32 a0 8)) 16711935) (shlI .u32 (bitsI .and .u32 (bitsI .or .u32 a0 (shlI .u32 a0 8)) 16711935) 4)) 252645135) (shlI .u32 (bitsI .and .u32 (bitsI .or .u32 (bitsI .and .u32 (bitsI .or .u32 a0 (shlI .u32 a0 8)) 16711935) (shlI .u32 (bitsI .and .u32 (bitsI .or .u32 a0 (shlI .u32 a0 8)) 16711935) 4)) 252645135) 2)) 858993459) (shlI .u32 (bitsI .and .u32 (bitsI .or .u32 (bitsI .and .u32 (bitsI .or .u32 (bitsI .and .u32 (bitsI .or .u32 a0 (shlI .u32 a0 8)) 16711935) (shlI .u32 (bitsI .and .u32 (bitsI .or .u32 a0 (shlI .u32 a0 8)) 16711935) 4)) 252645135) (shlI .u32 (bitsI .and .u32 (bitsI .or .u32 (bitsI .and .u32 (bitsI .or .u32 a0 (shlI .u32 a0 8)) 16711935) (shlI .u32 (bitsI .and .u32 (bitsI .or .u32 a0 (shlI .u32 a0 8)) 16711935) 4)) 252645135) 2)) 858993459) 1)) 1431655765)
theorem F94_ok (n : Nat) (a0 : Int) : ∀ r, F94 n a0 = some r → D 94 [.one (li .u32 a0)] [] = some (F94_e r) := by
 refine fn_to (D := D) (n := n + 8) (nt := 24) (rs := pc94_r) (c := p94c22) (L := [(0, .one (li .u32 a0))]) (M := []) (k := 0) rfl rfl rfl rfl rfl rfl rfl ?_
 unfold F94
 exact Sim.sr 1 [(2, .one (li .u32 0))] [] (.seq (.sr 6 [(10, qj 0), (9, .agg W14), (8, .agg [li .u64 1, li .u32 1431655765]), (7, .agg [li .u64 2, li .u32 858993459]), (6, .agg [li .u64 4, li .u32 252645135]), (5, .agg [li .u64 8, li .u32 16711935])] [] (.block (.loop (.succ (.seq (.rg [(0, .one (li .u32 a0)), (9, .agg W14), (10, qj 0)] [] (.rd 1 [(11, qb true)] [] (.thenN (.seq (.ct (.skip (.thenN (.seq (.block (.sr 3 [(4, qp 4 0), (12, .agg [li .u64 8, li .u32 16711935])] [(4, some (.cells [li .u64 8, li .u32 16711935])), (4, some (.cells [li .u64 0, li .u32 0]))] (.region0 (.rd 10 (rp [0, 21] (.one (li .u32 (bitsI .and .u32 (bitsI .or .u32 a0 (shlI .u32 a0 8)) 16711935))) ++ [(20, .one (li .u32 16711935)), (19, qp 4 1), (18, .one (li .u32 (bitsI .or .u32 a0 (shlI .u32 a0 8)))), (17, .one (li .u32 (shlI .u32 a0 8))), (16, .one (li .u64 8)), (15, qp 4 0)] ++ rp [14, 13] (.one (li .u32 a0))) [] (.blockN (.thenN (.region0 (.rd 2 [(10, qj 1), (22, qj 1)] [] (.loopN (.succ (.seq (.rg [(0, .one (li .u32 (bitsI .and .u32 (bitsI .or .u32 a0 (shlI .u32 a0 8)) 16711935))), (9, .agg W14), (10, qj 1)] [] (.rd 1 [(11, qb true)] [] (.thenN (.seq (.ct (.skip (.thenN (.seq (.block (.sr 3 [(4, qp 4 0), (12, .agg [li .u64 4, li .u32 252645135])] [(4, some (.cells [li .u64 4, li .u32 252645135])), (4, some (.cells [li .u64 0, li .u32 0]))] (.region0 (.rd 10 (rp [0, 21] (.one (li .u32 (bitsI .and .u32 (bitsI .or .u32 (bitsI .and .u32 (bitsI .or .u32 a0 (shlI .u32 a0 8)) 16711935) (shlI .u32 (bitsI .and .u32 (bitsI .or .u32 a0 (shlI .u32 a0 8)) 16711935) 4)) 252645135))) ++ [(20, .one (li .u32 252645135)), (19, qp 4 1), (18, .one (li .u32 (bitsI .or .u32 (bitsI .and .u32 (bitsI .or .u32 a0 (shlI .u32 a0 8)) 16711935) (shlI .u32 (bitsI .and .u32 (bitsI .or .u32 a0 (shlI .u32 a0 8)) 16711935) 4)))), (17, .one (li .u32 (shlI .u32 (bitsI .and .u32 (bitsI .or .u32 a0 (shlI .u32 a0 8)) 16711935) 4))), (16, .one (li .u64 4)), (15, qp 4 0)] ++ rp [14, 13] (.one (li .u32 (bitsI .and .u32 (bitsI .or .u32 a0 (shlI .u32 a0 8)) 16711935)))) [] (.blockN (.thenN (.region0 (.rd 2 [(10, qj 2), (22, qj 2)] [] (.loopN (.succ (.seq (.rg [(0, .one (li .u32 (bitsI .and .u32 (bitsI .or .u32 (bitsI .and .u32 (bitsI .or .u32 a0 (shlI .u32 a0 8)) 16711935) (shlI .u32 (bitsI .and .u32 (bitsI .or .u32 a0 (shlI .u32 a0 8)) 16711935) 4)) 252645135))), (9, .agg W14), (10, qj 2)] [] (.rd 1 [(11, qb true)] [] (.thenN (.seq (.ct (.skip (.thenN (.seq (.block (.sr 3 [(4, qp 4 0), (12, .agg [li .u64 2, li .u32 858993459])] [(4, some (.cells [li .u64 2, li .u32 858993459])), (4, some (.cells [li .u64 0, li .u32 0]))] (.region0 (.rd 10 (rp [0, 21] (.one (li .u32 (bitsI .and .u32 (bitsI .or .u32 (bitsI .and .u32 (bitsI .or .u32 (bitsI .and .u32 (bitsI .or .u32 a0 (shlI .u32 a0 8)) 16711935) (shlI .u32 (bitsI .and .u32 (bitsI .or .u32 a0 (shlI .u32 a0 8)) 16711935) 4)) 252645135) (shlI .u32 (bitsI .and .u32 (bitsI .or .u32 (bitsI .and .u32 (bitsI .or .u32 a0 (shlI .u32 a0 8)) 16711935) (shlI .u32 (bitsI .and .u32 (bitsI .or .u32 a0 (shlI .u32 a0 8)) 16711935) 4)) 252645135) 2)) 858993459))) ++ [(20, .one (li .u32 858993459)), (19, qp 4 1), (18, .one (li .u32 (bitsI .or .u32 (bitsI .and .u32 (bitsI .or .u32 (bitsI .and .u32 (bitsI .or .u32 a0 (shlI .u32 a0 8)) 16711935) (shlI .u32 (bitsI .and .u32 (bitsI .or .u32 a0 (shlI .u32 a0 8)) 16711935) 4)) 252645135) (shlI .u32 (bitsI .and .u32 (bitsI .or .u32 (bitsI .and .u32 (bitsI .or .u32 a0 (shlI .u32 a0 8)) 16711935) (shlI .u32 (bitsI .and .u32 (bitsI .or .u32 a0 (shlI .u32 a0 8)) 16711935) 4)) 252645135) 2)))), (17, .one (li .u32 (shlI .u32 (bitsI .and .u32 (bitsI .or .u32 (bitsI .and .u32 (bitsI .or .u32 a0 (shlI .u32 a0 8)) 16711935) (shlI .u32 (bitsI .and .u32 (bitsI .or .u32 a0 (shlI .u32 a0 8)) 16711935) 4)) 252645135) 2))), (16, .one (li .u64 2)), (15, qp 4 0)] ++ rp [14, 13] (.one (li .u32 (bitsI .and .u32 (bitsI .or .u32 (bitsI .and .u32 (bitsI .or .u32 a0 (shlI .u32 a0 8)) 16711935) (shlI .u32 (bitsI .and .u32 (bitsI .or .u32 a0 (shlI .u32 a0 8)) 16711935) 4)) 252645135)))) [] (.blockN (.thenN (.region0 (.rd 2 [(10, qj 3), (22, qj 3)] [] (.loopN (.succ (.seq (.rg [(0, .one (li .u32 (bitsI .and .u32 (bitsI .or .u32 (bitsI .and .u32 (bitsI .or .u32 (bitsI .and .u32 (bitsI .or .u32 a0 (shlI .u32 a0 8)) 16711935) (shlI .u32 (bitsI .and .u32 (bitsI .or .u32 a0 (shlI .u32 a0 8)) 16711935) 4)) 252645135) (shlI .u32 (bitsI .and .u32 (bitsI .or .u32 (bitsI .and .u32 (bitsI .or .u32 a0 (shlI .u32 a0 8)) 16711935) (shlI .u32 (bitsI .and .u32 (bitsI .or .u32 a0 (shlI .u32 a0 8)) 16711935) 4)) 252645135) 2)) 858993459))), (9, .agg W14), (10, qj 3)] [] (.rd 1 [(11, qb true)] [] (.thenN (.seq (.ct (.skip (.thenN (.seq (.block (.sr 3 [(4, qp 4 0), (12, .agg [li .u64 1, li .u32 1431655765])] [(4, some (.cells [li .u64 1, li .u32 1431655765])), (4, some (.cells [li .u64 0, li .u32 0]))] (.region0 (.rd 10 (rp [0, 21] (.one (li .u32 (bitsI .and .u32 (bitsI .or .u32 (bitsI .and .u32 (bitsI .or .u32 (bitsI .and .u32 (bitsI .or .u32 (bitsI .and .u32 (bitsI .or .u32 a0 (shlI .u32 a0 8)) 16711935) (shlI .u32 (bitsI .and .u32 (bitsI .or .u32 a0 (shlI .u32 a0 8)) 16711935) 4)) 252645135) (shlI .u32 (bitsI .and .u32 (bitsI .or .u32 (bitsI .and .u32 (bitsI .or .u32 a0 (shlI .u32 a0 8)) 16711935) (shlI .u32 (bitsI .and .u32 (bitsI .or .u32 a0 (shlI .u32 a0 8)) 16711935) 4)) 252645135) 2)) 858993459) (shlI .u32 (bitsI .and .u32 (bitsI .or .u32 (bitsI .and .u32 (bitsI .or .u32 (bitsI .and .u32 (bitsI .or .u32 a0 (shlI .u32 a0 8)) 16711935) (shlI .u32 (bitsI .and .u32 (bitsI .or .u32 a0 (shlI .u32 a0 8)) 16711935) 4)) 252645135) (shlI .u32 (bitsI .and .u32 (bitsI .or .u32 (bitsI .and .u32 (bitsI .or .u32 a0 (shlI .u32 a0 8)) 16711935) (shlI .u32 (bitsI .and .u32 (bitsI .or .u32 a0 (shlI .u32 a0 8)) 16711935) 4)) 252645135) 2)) 858993459) 1)) 1431655765))) ++ [(20, .one (li .u32 1431655765)), (19, qp 4 1), (18, .one (li .u32 (bitsI .or .u32 (bitsI .and .u32 (bitsI .or .u32 (bitsI .and .u32 (bitsI .or .u32 (bitsI .and .u32 (bitsI .or .u32 a0 (shlI .u32 a0 8)) 16711935) (shlI .u32 (bitsI .and .u32 (bitsI .or .u32 a0 (shlI .u32 a0 8)) 16711935) 4)) 252645135) (shlI .u32 (bitsI .and .u32 (bitsI .or .u32 (bitsI .and .u32 (bitsI .or .u32 a0 (shlI .u32 a0 8)) 16711935) (shlI .u32 (bitsI .and .u32 (bitsI .or .u32 a0 (shlI .u32 a0 8)) 16711935) 4)) 252645135) 2)) 858993459) (shlI .u32 (bitsI .and .u32 (bitsI .or .u32 (bitsI .and .u32 (bitsI .or .u32 (bitsI .and .u32 (bitsI .or .u32 a0 (shlI .u32 a0 8)) 16711935) (shlI .u32 (bitsI .and .u32 (bitsI .or .u32 a0 (shlI .u32 a0 8)) 16711935) 4)) 252645135) (shlI .u32 (bitsI .and .u32 (bitsI .or .u32 (bitsI .and .u32 (bitsI .or .u32 a0 (shlI .u32 a0 8)) 16711935) (shlI .u32 (bitsI .and .u32 (bitsI .or .u32 a0 (shlI .u32 a0 8)) 16711935) 4)) 252645135) 2)) 858993459) 1)))), (17, .one (li .u32 (shlI .u32 (bitsI .and .u32 (bitsI .or .u32 (bitsI .and .u32 (bitsI .or .u32 (bitsI .and .u32 (bitsI .or .u32 a0 (shlI .u32 a0 8)) 16711935) (shlI .u32 (bitsI .and .u32 (bitsI .or .u32 a0 (shlI .u32 a0 8)) 16711935) 4)) 252645135) (shlI .u32 (bitsI .and .u32 (bitsI .or .u32 (bitsI .and .u32 (bitsI .or .u32 a0 (shlI .u32 a0 8)) 16711935) (shlI .u32 (bitsI .and .u32 (bitsI .or .u32 a0 (shlI .u32 a0 8)) 16711935) 4)) 252645135) 2)) 858993459) 1))), (16, .one (li .u64 1)), (15, qp 4 0)] ++ rp [14, 13] (.one (li .u32 (bitsI .and .u32 (bitsI .or .u32 (bitsI .and .u32 (bitsI .or .u32 (bitsI .and .u32 (bitsI .or .u32 a0 (shlI .u32 a0 8)) 16711935) (shlI .u32 (bitsI .and .u32 (bitsI .or .u32 a0 (shlI .u32 a0 8)) 16711935) 4)) 252645135) (shlI .u32 (bitsI .and .u32 (bitsI .or .u32 (bitsI .and .u32 (bitsI .or .u32 a0 (shlI .u32 a0 8)) 16711935) (shlI .u32 (bitsI .and .u32 (bitsI .or .u32 a0 (shlI .u32 a0 8)) 16711935) 4)) 252645135) 2)) 858993459)))) [] (.blockN (.thenN (.region0 (.rd 2 [(10, qj 4), (22, qj 4)] [] (.loopN (.succ (.seq (.rg [(0, .one (li .u32 (bitsI .and .u32 (bitsI .or .u32 (bitsI .and .u32 (bitsI .or .u32 (bitsI .and .u32 (bitsI .or .u32 (bitsI .and .u32 (bitsI .or .u32 a0 (shlI .u32 a0 8)) 16711935) (shlI .u32 (bitsI .and .u32 (bitsI .or .u32 a0 (shlI .u32 a0 8)) 16711935) 4)) 252645135) (shlI .u32 (bitsI .and .u32 (bitsI .or .u32 (bitsI .and .u32 (bitsI .or .u32 a0 (shlI .u32 a0 8)) 16711935) (shlI .u32 (bitsI .and .u32 (bitsI .or .u32 a0 (shlI .u32 a0 8)) 16711935) 4)) 252645135) 2)) 858993459) (shlI .u32 (bitsI .and .u32 (bitsI .or .u32 (bitsI .and .u32 (bitsI .or .u32 (bitsI .and .u32 (bitsI .or .u32 a0 (shlI .u32 a0 8)) 16711935) (shlI .u32 (bitsI .and .u32 (bitsI .or .u32 a0 (shlI .u32 a0 8)) 16711935) 4)) 252645135) (shlI .u32 (bitsI .and .u32 (bitsI .or .u32 (bitsI .and .u32 (bitsI .or .u32 a0 (shlI .u32 a0 8)) 16711935) (shlI .u32 (bitsI .and .u32 (bitsI .or .u32 a0 (shlI .u32 a0 8)) 16711935) 4)) 252645135) 2)) 858993459) 1)) 1431655765))), (9, .agg W14), (10, qj 4)] [] (.rd 1 [(11, qb false)] [] (.thenN (.seq (.cf (.exit (.thenX (.loopX (.blockX (.thenN (.sr 2 (rp [2, 23] (.one (li .u32 (bitsI .and .u32 (bitsI .or .u32 (bitsI .and .u32 (bitsI .or .u32 (bitsI .and .u32 (bitsI .or .u32 (bitsI .and .u32 (bitsI .or .u32 a0 (shlI .u32 a0 8)) 16711935) (shlI .u32 (bitsI .and .u32 (bitsI .or .u32 a0 (shlI .u32 a0 8)) 16711935) 4)) 252645135) (shlI .u32 (bitsI .and .u32 (bitsI .or .u32 (bitsI .and .u32 (bitsI .or .u32 a0 (shlI .u32 a0 8)) 16711935) (shlI .u32 (bitsI .and .u32 (bitsI .or .u32 a0 (shlI .u32 a0 8)) 16711935) 4)) 252645135) 2)) 858993459) (shlI .u32 (bitsI .and .u32 (bitsI .or .u32 (bitsI .and .u32 (bitsI .or .u32 (bitsI .and .u32 (bitsI .or .u32 a0 (shlI .u32 a0 8)) 16711935) (shlI .u32 (bitsI .and .u32 (bitsI .or .u32 a0 (shlI .u32 a0 8)) 16711935) 4)) 252645135) (shlI .u32 (bitsI .and .u32 (bitsI .or .u32 (bitsI .and .u32 (bitsI .or .u32 a0 (shlI .u32 a0 8)) 16711935) (shlI .u32 (bitsI .and .u32 (bitsI .or .u32 a0 (shlI .u32 a0 8)) 16711935) 4)) 252645135) 2)) 858993459) 1)) 1431655765)))) [] (.ret .fn))))))))))))))))))))))))))))))))))))))))))))))))))))))))))))))))))))))))))))))))))))))))))))))
def F90_e : Int → PV × List Ob := fun r => (.one (li .u32 r), [])
def F90 (n : Nat) (a0 a1 : Int) : Option Int :=
 (F94 n (IntKind.wrap .u32 a0)).bind fun (r1 : Int) =>
 (F94 n (IntKind.wrap .u32 a1)).bind fun (r2 : Int) =>
 some (bitsI .or .u32 r1 (shlI .u32 r2 1))
theorem F90_ok (n : Nat) (a0 a1 : Int) : ∀ r, F90 n a0 a1 = some r → D 90 [.one (li .u16 a0), .one (li .u16 a1)] [] = some (F90_e r) := by
 refine fn_to (D := D) (n := n + 8) (nt := 13) (rs := pc90_r) (c := p90c5) (L := [(0, .one (li .u16 a0)), (1, .one (li .u16 a1))]) (M := []) (k := 0) rfl rfl rfl rfl rfl rfl rfl ?_
 unfold F90
 refine Sim.sr 1 [(4, .one (li .u32 0))] [] (.st 2 [(6, .one (li .u32 (iw .u32 a0))), (5, .one (li .u16 a0))] [] (.cl 7 true [[]] 94 [6] none (fun r1 => .one (li .u32 r1)) [.one (li .u32 (iw .u32 a0))] (F94_ok _ _) (fun r1 => ?_)))
 refine SimI.rn 2 [(9, .one (li .u32 (iw .u32 a1))), (8, .one (li .u16 a1))] [] (.cl 10 true [[]] 94 [9] none (fun r2 => .one (li .u32 r2)) [.one (li .u32 (iw .u32 a1))] (F94_ok _ _) (fun r2 => ?_))
 exact SimI.rd 3 (rp [4, 12] (.one (li .u32 (bitsI .or .u32 r1 (shlI .u32 r2 1)))) ++ [(11, .one (li .u32 (shlI .u32 r2 1)))]) [] (.thenN (.ret .fn))
def F79_e : Int → PV × List Ob := fun r => (.one (li .i64 r), [])
def F79 (n : Nat) (a0 a1 : Int) : Option Int :=
 (F90 n (IntKind.wrap .u16 a0) (IntKind.wrap .u16 a1)).bind fun (r1 : Int) =>
 some (IntKind.wrap .i64 r1)
theorem F79_ok (n : Nat) (a0 a1 : Int) : ∀ r, F79 n a0 a1 = some r → D 79 [.one (li .i64 a0), .one (li .i64 a1)] [] = some (F79_e r) := by
 refine fn_to (D := D) (n := n + 8) (nt := 11) (rs := pc79_r) (c := p79c5) (L := [(0, qj a0), (1, qj a1)]) (M := []) (k := 0) rfl rfl rfl rfl rfl rfl rfl ?_
 unfold F79
 refine Sim.sr 1 [(4, qj 0)] [] (.st 4 [(8, .one (li .u16 (iw .u16 a1))), (7, qj a1), (6, .one (li .u16 (iw .u16 a0))), (5, qj a0)] [] (.cl 9 true [[], []] 90 [6, 8] none (fun r1 => .one (li .u32 r1)) [.one (li .u16 (iw .u16 a0)), .one (li .u16 (iw .u16 a1))] (F90_ok _ _ _) (fun r1 => ?_)))
 exact SimI.rd 2 (rp [4, 10] (qj (iw .i64 r1))) [] (.thenN (.ret .fn))
def F64_e : (Int × Int) → PV × List Ob := fun r => (.tup [.one (li .i64 r.1), .one (li .i64 r.2)], [])
def F64 (n : Nat) (a0 : Point) : Option (Int × Int) :=
 (F78 n a0).bind fun (r1 : Bool) =>
 if !(r1) then
  some (0, 14)
 else
  (F79 n (IntKind.wrap .i64 (Int.tdiv a0.X 16)) (IntKind.wrap .i64 (Int.tdiv a0.Y 16))).bind fun (r2 : Int) =>
  some (r2, 0)
theorem F64_ok (n : Nat) (a0 : Point) : ∀ r, F64 n a0 = some r → D 64 [.agg [li .i64 a0.X, li .i64 a0.Y]] [] = some (F64_e r) := by
 refine fn_to (D := D) (n := n + 8) (nt := 14) (rs := pc64_r) (c := p64c13) (L := [(0, .agg [lj a0.X, lj a0.Y])]) (M := []) (k := 0) rfl rfl rfl rfl rfl rfl rfl ?_
 unfold F64
 refine Sim.sr 3 [(3, qj 0), (2, qj 0), (1, qp 1 0)] [(1, some (.cells [lj a0.X, lj a0.Y]))] (.seq (.st 1 [(4, .agg [lj a0.X, lj a0.Y])] [] (.cl 5 true [[]] 78 [4] none (fun r1 => qb r1) [.agg [lj a0.X, lj a0.Y]] (F78_ok _ _) (fun r1 => ?_))))
 refine SimI.rd 1 [(6, qb (!(r1)))] [] (.thenN (.cd _ ?_ ?_))
 ·exact Sim.sr 2 [(3, qj 14), (2, qj 0)] [] (.ret (.thenR .fn))
 ·refine Sim.skip (.thenN (.st 6 [(12, qj (iw .i64 (Int.tdiv a0.Y 16))), (11, qj a0.Y), (10, qp 1 1), (9, qj (iw .i64 (Int.tdiv a0.X 16))), (8, qj a0.X), (7, qp 1 0)] [] (.cl 13 true [[], []] 79 [9, 12] none (fun r2 => qj r2) [qj (iw .i64 (Int.tdiv a0.X 16)), qj (iw .i64 (Int.tdiv a0.Y 16))] (F79_ok _ _ _) (fun r2 => ?_))))
  exact SimI.rd 2 [(3, qj 0), (2, qj r2)] [] (.thenN (.ret .fn))
def F66s0_e (a0 : Hand) (a1 : Int) : Bool → PV × List Ob := fun r => (.one (lb r), [.cells [li .i64 a1]])
def F66s0 (n : Nat) (a0 : Hand) (a1 : Int) : Option Bool :=
 some (a0.Cell == a1)
theorem F66s0_ok (n : Nat) (a0 : Hand) (a1 : Int) : ∀ r, F66s0 n a0 a1 = some r → D 66 [.agg [li .i64 a0.Cell, li .i64 a0.To], .one (.ptr 1000000 0)] [.cells [li .i64 a1]] = some ((F66s0_e a0 a1) r) := by
 refine fn_to (D := D) (n := n + 8) (nt := 8) (rs := pc66_r) (c := p66c5) (L := [(0, .agg [lj a0.Cell, lj a0.To]), (1, qp 1000000 0)]) (M := (W81 a1)) (k := 1) rfl rfl rfl rfl rfl rfl rfl ?_
 unfold F66s0
 exact Sim.sr 2 [(3, qb false), (2, qp 2 0)] [(2, some (.cells [lj a0.Cell, lj a0.To]))] (.sr 5 (rp [3, 7] (qb (a0.Cell == a1)) ++ [(6, qj a1), (5, qj a0.Cell), (4, qp 2 0)]) [] (.ret .fn))
def F80s0_e (a0 : (List Hand)) (a1 : Int) : Int → PV × List Ob := fun r => (.one (li .i64 r), [.cells [li .i64 a1]])
def F80s0_l4 (n : Nat) (a0 : (List Hand)) (a1 : Int) : Nat → Int → Option Int
 | 0, _ => none
 | m + 1, i3 =>
  if decide (i3 < ((a0).length : Int)) then
   (ix a0 i3).bind fun (x5 : Hand) =>
   (F66s0 n x5 a1).bind fun (r6 : Bool) =>
   if r6 then
    some i3
   else
    (F80s0_l4 n a0 a1 m) (IntKind.wrap .i64 (i3 + 1))
  else
   some (-1)
theorem F80s0_l4_ok (n : Nat) (a0 : (List Hand)) (a1 : Int) : ∀ (m : Nat) (i3 : Int), SimL Try.prog D (n + 8) m p80c20 [(0, .one (vw Hand.cod a0)), (1, .one (.fn 66 [.ptr 1000000 0])), (7, qj ((a0).length : Int)), (8, qj i3)] (W81 a1) (F80s0_l4 n a0 a1 m i3) (QB 0 (QT Try.prog D (n + 8) p80c26 (QF false pc80_r 1 (F80s0_e a0 a1)))) := by
 intro m_l4
 induction m_l4 with
 | zero => intro i3; exact SimL.zero'  rfl
 | succ m_l4 ih_l4 =>
  intro i3
  refine SimL.succ ?_
  unfold F80s0_l4
  refine Sim.seq (.rg [(0, .one (vw Hand.cod a0)), (1, .one (.fn 66 [.ptr 1000000 0])), (7, qj ((a0).length : Int)), (8, qj i3)] (W81 a1) (.rd 1 [(9, qb (decide (i3 < ((a0).length : Int))))] [] (.thenN (.seq (.cd _ ?_ ?_)))))
  ·refine Sim.skip (.thenN (.seq (.block (.sr 2 [(5, qj i3), (10, qj i3)] [] (.st 3 [(13, qj i3), (12, .one (vw Hand.cod a0)), (11, .one (.fn 66 [.ptr 1000000 0]))] [] (.bn ⟨some 14, .iaddrS 2 12 13, none, []⟩ (fun x5 => [(14, .one (.eptr (Hand.cod.enc x5) 0))]) (fun x5 => []) (fun x5 hr => pe (ei (c := Hand.cod) (k := .i64) hr)) (fun x5 => ?_)))))))
   refine SimI.rn 1 [(15, .agg [lj x5.Cell, lj x5.To])] [] (.bn ⟨some 16, .gcallv false false W153 [[]] 11 [15], none, []⟩ (fun r6 => [(16, qb r6)]) (fun r6 => (W81 a1)) (fun r6 hr => pe (gv (ks := [1000000]) (ARGS := [.agg [lj x5.Cell, lj x5.To], qp 1000000 0]) (caps := [.ptr 1000000 0]) (F66s0_ok _ _ _ _ hr))) (fun r6 => ?_))
   refine SimI.dn (.thenN (.cd _ ?_ ?_))
   ·exact Sim.sr 2 [(4, qj i3), (17, qj i3)] [] (.ret (.blockR (.thenR (.loopR (.blockR (.thenR .fn))))))
   ·refine Sim.skip (.blockN (.thenN (.region0 (.rd 2 (rp [8, 18] (qj (iw .i64 (i3 + 1)))) [] (.loopN (.pr [0, 1, 7, 8] [1000000] [] [(0, .one (vw Hand.cod a0)), (1, .one (.fn 66 [.ptr 1000000 0])), (7, qj ((a0).length : Int)), (8, qj (iw .i64 (i3 + 1)))] (W81 a1) ?_))))))
    exact ih_l4 (iw .i64 (i3 + 1))
  ·exact Sim.exit (.thenX (.loopX (.blockX (.thenN (.sr 1 [(4, qj (-1))] [] (.ret .fn))))))
def F80s0 (n : Nat) (a0 : (List Hand)) (a1 : Int) : Option Int :=
 F80s0_l4 n a0 a1 (n + 8) 0
theorem F80s0_ok (n : Nat) (a0 : (List Hand)) (a1 : Int) : ∀ r, F80s0 n a0 a1 = some r → D 80 [.one (vw Hand.cod a0), .one (.fn 66 [.ptr 1000000 0])] [.cells [li .i64 a1]] = some ((F80s0_e a0 a1) r) := by
 refine fn_to (D := D) (n := n + 8) (nt := 19) (rs := pc80_r) (c := p80c28) (L := [(0, .one (vw Hand.cod a0)), (1, .one (.fn 66 [.ptr 1000000 0]))]) (M := (W81 a1)) (k := 1) rfl rfl rfl rfl rfl rfl rfl ?_
 unfold F80s0
 refine Sim.sr 1 [(4, qj 0)] [] (.seq (.sr 3 [(8, qj 0), (7, qj ((a0).length : Int)), (6, .one (vw Hand.cod a0))] [] (.block (.loop (.pr [0, 1, 7, 8] [1000000] [] [(0, .one (vw Hand.cod a0)), (1, .one (.fn 66 [.ptr 1000000 0])), (7, qj ((a0).length : Int)), (8, qj 0)] (W81 a1) ?_)))))
 exact F80s0_l4_ok n a0 a1 (n + 8) 0
def F65s0_e (a0 : (List Hand)) (a1 : Int) : Bool → PV × List Ob := fun r => (.one (lb r), [.cells [li .i64 a1]])
def F65s0 (n : Nat) (a0 : (List Hand)) (a1 : Int) : Option Bool :=
 (F80s0 n a0 a1).bind fun (r1 : Int) =>
 some (decide ((0 : Int) ≤ r1))
theorem F65s0_ok (n : Nat) (a0 : (List Hand)) (a1 : Int) : ∀ r, F65s0 n a0 a1 = some r → D 65 [.one (vw Hand.cod a0), .one (.fn 66 [.ptr 1000000 0])] [.cells [li .i64 a1]] = some ((F65s0_e a0 a1) r) := by
 refine fn_to (D := D) (n := n + 8) (nt := 9) (rs := pc65_r) (c := p65c5) (L := [(0, .one (vw Hand.cod a0)), (1, .one (.fn 66 [.ptr 1000000 0]))]) (M := (W81 a1)) (k := 1) rfl rfl rfl rfl rfl rfl rfl ?_
 unfold F65s0
 refine Sim.sr 1 [(4, qb false)] [] (.st 2 [(6, .one (.fn 66 [.ptr 1000000 0])), (5, .one (vw Hand.cod a0))] [] (.bn ⟨some 7, .gcall false false W153 [[(0, 2)], []] 80 [5, 6], none, []⟩ (fun r1 => [(7, qj r1)]) (fun r1 => (W81 a1)) (fun r1 hr => pe (gq (ks := [1000000]) (ARGS := [.one (vw Hand.cod a0), .one (.fn 66 [.ptr 1000000 0])]) (F80s0_ok _ _ _ _ hr))) (fun r1 => ?_)))
 exact SimI.rd 2 (rp [4, 8] (qb (decide ((0 : Int) ≤ r1)))) [] (.thenN (.ret .fn))
def F82_e : Bool → PV × List Ob := fun r => (.one (lb r), [])
def F82 (n : Nat) (a0 : Field) : Option Bool :=
 (F60 n a0).bind fun (r1 : Bool) =>
 some (!(r1))
theorem F82_ok (n : Nat) (a0 : Field) : ∀ r, F82 n a0 = some r → D 82 [.agg [li .i64 a0.N, ls a0.Text]] [] = some (F82_e r) := by
 refine fn_to (D := D) (n := n + 8) (nt := 6) (rs := pc82_r) (c := p82c5) (L := [(0, .agg [lj a0.N, ls a0.Text])]) (M := []) (k := 0) rfl rfl rfl rfl rfl rfl rfl ?_
 unfold F82
 refine Sim.sr 2 W56 [(1, some (.cells [lj a0.N, ls a0.Text]))] (.st 1 [(3, .agg [lj a0.N, ls a0.Text])] [] (.cl 4 true [[]] 60 [3] none (fun r1 => qb r1) [.agg [lj a0.N, ls a0.Text]] (F60_ok _ _) (fun r1 => ?_)))
 exact SimI.rd 2 [(2, qb (!(r1))), (5, qb (!(r1)))] [] (.thenN (.ret .fn))
def F91s0_e (a0 : (List Field)) : Int → PV × List Ob := fun r => (.one (li .i64 r), [])
def F91s0_l4 (n : Nat) (a0 : (List Field)) : Nat → Int → Option Int
 | 0, _ => none
 | m + 1, i3 =>
  if decide (i3 < ((a0).length : Int)) then
   (ix a0 i3).bind fun (x5 : Field) =>
   (F82 n x5).bind fun (r6 : Bool) =>
   if r6 then
    some i3
   else
    (F91s0_l4 n a0 m) (IntKind.wrap .i64 (i3 + 1))
  else
   some (-1)
theorem F91s0_l4_ok (n : Nat) (a0 : (List Field)) : ∀ (m : Nat) (i3 : Int), SimL Try.prog D (n + 8) m p91c20 [(0, .one (vw Field.cod a0)), (1, .one (.val (.func (.func 82) #[] #[]))), (7, qj ((a0).length : Int)), (8, qj i3)] [] (F91s0_l4 n a0 m i3) (QB 0 (QT Try.prog D (n + 8) p91c26 (QF false pc91_r 0 (F91s0_e a0)))) := by
 intro m_l4
 induction m_l4 with
 | zero => intro i3; exact SimL.zero'  rfl
 | succ m_l4 ih_l4 =>
  intro i3
  refine SimL.succ ?_
  unfold F91s0_l4
  refine Sim.seq (.rg [(0, .one (vw Field.cod a0)), (1, .one (.val (.func (.func 82) #[] #[]))), (7, qj ((a0).length : Int)), (8, qj i3)] [] (.rd 1 [(9, qb (decide (i3 < ((a0).length : Int))))] [] (.thenN (.seq (.cd _ ?_ ?_)))))
  ·refine Sim.skip (.thenN (.seq (.block (.sr 2 [(5, qj i3), (10, qj i3)] [] (.st 3 [(13, qj i3), (12, .one (vw Field.cod a0)), (11, .one (.val (.func (.func 82) #[] #[])))] [] (.bn ⟨some 14, .iaddrS 2 12 13, none, []⟩ (fun x5 => [(14, .one (.eptr (Field.cod.enc x5) 0))]) (fun x5 => []) (fun x5 hr => pe (ei (c := Field.cod) (k := .i64) hr)) (fun x5 => ?_)))))))
   refine SimI.rn 1 [(15, .agg [lj x5.N, ls x5.Text])] [] (.bn ⟨some 16, .callv true [[]] 11 [15], none, []⟩ (fun r6 => [(16, qb r6)]) (fun r6 => []) (fun r6 hr => pe (eff_callvv (by kernel_rfl) (ARGS := [.agg [lj x5.N, ls x5.Text]]) (by kernel_rfl) (args_clean (by kernel_rfl) args_nil) (F82_ok _ _ _ hr) (by kernel_rfl))) (fun r6 => ?_))
   refine SimI.dn (.thenN (.cd _ ?_ ?_))
   ·exact Sim.sr 2 [(4, qj i3), (17, qj i3)] [] (.ret (.blockR (.thenR (.loopR (.blockR (.thenR .fn))))))
   ·refine Sim.skip (.blockN (.thenN (.region0 (.rd 2 (rp [8, 18] (qj (iw .i64 (i3 + 1)))) [] (.loopN (.pr [0, 1, 7, 8] [] [] [(0, .one (vw Field.cod a0)), (1, .one (.val (.func (.func 82) #[] #[]))), (7, qj ((a0).length : Int)), (8, qj (iw .i64 (i3 + 1)))] [] ?_))))))
    exact ih_l4 (iw .i64 (i3 + 1))
  ·exact Sim.exit (.thenX (.loopX (.blockX (.thenN (.sr 1 [(4, qj (-1))] [] (.ret .fn))))))
def F91s0 (n : Nat) (a0 : (List Field)) : Option Int :=
 F91s0_l4 n a0 (n + 8) 0
theorem F91s0_ok (n : Nat) (a0 : (List Field)) : ∀ r, F91s0 n a0 = some r → D 91 [.one (vw Field.cod a0), .one (.val (.func (.func 82) #[] #[]))] [] = some ((F91s0_e a0) r) := by
 refine fn_to (D := D) (n := n + 8) (nt := 19) (rs := pc91_r) (c := p91c28) (L := [(0, .one (vw Field.cod a0)), (1, .one (.val (.func (.func 82) #[] #[])))]) (M := []) (k := 0) rfl rfl rfl rfl rfl rfl rfl ?_
 unfold F91s0
 refine Sim.sr 1 [(4, qj 0)] [] (.seq (.sr 3 [(8, qj 0), (7, qj ((a0).length : Int)), (6, .one (vw Field.cod a0))] [] (.block (.loop (.pr [0, 1, 7, 8] [] [] [(0, .one (vw Field.cod a0)), (1, .one (.val (.func (.func 82) #[] #[]))), (7, qj ((a0).length : Int)), (8, qj 0)] [] ?_)))))
 exact F91s0_l4_ok n a0 (n + 8) 0
def F81s0_e (a0 : (List Field)) : Bool → PV × List Ob := fun r => (.one (lb r), [])
def F81s0 (n : Nat) (a0 : (List Field)) : Option Bool :=
 (F91s0 n a0).bind fun (r1 : Int) =>
 some (decide ((0 : Int) ≤ r1))
theorem F81s0_ok (n : Nat) (a0 : (List Field)) : ∀ r, F81s0 n a0 = some r → D 81 [.one (vw Field.cod a0), .one (.val (.func (.func 82) #[] #[]))] [] = some ((F81s0_e a0) r) := by
 refine fn_to (D := D) (n := n + 8) (nt := 9) (rs := pc81_r) (c := p81c5) (L := [(0, .one (vw Field.cod a0)), (1, .one (.val (.func (.func 82) #[] #[])))]) (M := []) (k := 0) rfl rfl rfl rfl rfl rfl rfl ?_
 unfold F81s0
 refine Sim.sr 1 [(4, qb false)] [] (.st 2 [(6, .one (.val (.func (.func 82) #[] #[]))), (5, .one (vw Field.cod a0))] [] (.bn ⟨some 7, .gcall false false W103 [[(0, 2)], []] 91 [5, 6], none, []⟩ (fun r1 => [(7, qj r1)]) (fun r1 => []) (fun r1 hr => pe (gq (ks := []) (ARGS := [.one (vw Field.cod a0), .one (.val (.func (.func 82) #[] #[]))]) (F91s0_ok _ _ _ hr))) (fun r1 => ?_)))
 exact SimI.rd 2 (rp [4, 8] (qb (decide ((0 : Int) ≤ r1)))) [] (.thenN (.ret .fn))
def F67_e : Bool → PV × List Ob := fun r => (.one (lb r), [])
def F67 (n : Nat) (a0 : Thing) : Option Bool :=
 if decide ((0 : Int) ≤ a0.ID) then
  if decide (a0.ID ≤ 1000000) then
   (F78 n a0.At).bind fun (r1 : Bool) =>
   if r1 then
    (F81s0 n [a0.F.a0, a0.F.a1, a0.F.a2, a0.F.a3]).bind fun (r2 : Bool) =>
    some (!(r2))
   else
    some false
  else
   some false
 else
  some false
theorem F67_ok (n : Nat) (a0 : Thing) : ∀ r, F67 n a0 = some r → D 67 [.agg (Thing.cells a0)] [] = some (F67_e r) := by
 refine fn_to (D := D) (n := n + 8) (nt := 22) (rs := pc67_r) (c := p67c5) (L := [(0, .agg (Thing.cells a0))]) (M := []) (k := 0) rfl rfl rfl rfl rfl rfl rfl ?_
 unfold F67
 refine Sim.sr 2 W56 (W84 a0) (.st 4 (rp [6, 5] (qb (decide ((0 : Int) ≤ a0.ID))) ++ [(4, qj a0.ID), (3, qp 1 0)]) [] (.sp 6 _ ?_ ?_))
 ·refine SimI.rn 5 (rp [11, 10, 9] (qb (decide (a0.ID ≤ 1000000))) ++ [(8, qj a0.ID), (7, qp 1 0)]) [] (.sp 11 _ ?_ ?_)
  ·refine SimI.rn 2 [(13, .agg [lj a0.At.X, lj a0.At.Y]), (12, qp 1 1)] [] (.cl 14 true [[]] 78 [13] (some (11, true)) (fun r1 => qb r1) [.agg [lj a0.At.X, lj a0.At.Y]] (F78_ok _ _) (fun r1 => ?_))
   refine SimI.rn 2 [(16, qb r1), (15, qb r1)] [] (.sp 16 _ ?_ ?_)
   ·refine SimI.rn 2 [(18, .one (.csl 1 2 3 4)), (17, qp 1 3)] [] (.bn ⟨some 19, .gcall false false W13 [[(0, 2)], []] 81 [18, Operand.func 82], some (16, true), []⟩ (fun r2 => [(19, qb r2)]) (fun r2 => []) (fun r2 hr => pe (eff_gcall (ks := []) (rks := [1]) (new := []) (ARGS := [.one (.csl 1 2 3 4), .one (.val (.func (.func 82) #[] #[]))]) (args1 := (W144 a0)) (args2 := (W144 a0)) (os := []) (os' := []) (os1 := []) (res := qb r2) (res1 := qb r2) (r := qb r2) (N := []) (by kernel_rfl) (readA_ow (readA_csl (c := Field.cod) (k := 1) (off := 3) (cs := (Thing.cells a0)) (l := [a0.F.a0, a0.F.a1, a0.F.a2, a0.F.a3]) (by kernel_rfl) (by kernel_rfl) (by kernel_rfl) (by kernel_rfl) (readA_keep (by kernel_rfl) (readA_nil)))) (by kernel_rfl) (by kernel_rfl) (by kernel_rfl) (by kernel_rfl) (F81s0_ok _ _ _ hr) (by kernel_rfl) (by kernel_rfl) (by kernel_rfl) rfl (by kernel_rfl) (by kernel_rfl) (by kernel_rfl))) (fun r2 => ?_))
    exact SimI.rd 3 (rp [2, 21, 20] (qb (!(r2)))) [] (.thenN (.ret .fn))
   ·exact SimI.rd 6 [(2, qb false), (21, qb false), (20, tz), (19, tz), (18, tz), (17, tz)] [] (.thenN (.ret .fn))
  ·exact SimI.rd 11 [(2, qb false), (21, qb false), (20, tz), (19, tz), (18, tz), (17, tz), (16, qb false), (15, qb false), (14, tz), (13, tz), (12, tz)] [] (.thenN (.ret .fn))
 ·exact SimI.rd 16 [(2, qb false), (21, qb false), (20, tz), (19, tz), (18, tz), (17, tz), (16, qb false), (15, qb false), (14, tz), (13, tz), (12, tz), (11, qb false), (10, qb false), (9, tz), (8, tz), (7, tz)] [] (.thenN (.ret .fn))
def F35_e : Bool → PV × List Ob := fun r => (.one (lb r), [])
def F35_l4 (n : Nat) (a0 : (List Thing)) (a1 : (List Hand)) (a2 : Bool) : Nat → Int → Option Bool
 | 0, _ => none
 | m + 1, i3 =>
  if decide (i3 < ((a0).length : Int)) then
   (ix a0 i3).bind fun (x5 : Thing) =>
   (F64 n x5.At).bind fun (r6 : (Int × Int)) =>
   (F65s0 n a1 r6.1).bind fun (r7 : Bool) =>
   (F67 n x5).bind fun (r8 : Bool) =>
   if !(r8) then
    some false
   else
    if decide ((0 : Int) < i3) then
     (ix a0 (IntKind.wrap .i64 (i3 - 1))).bind fun (x9 : Thing) =>
     if decide (x5.ID ≤ x9.ID) then
      some false
     else
      if !(r7 == a2) then
       some false
      else
       (F35_l4 n a0 a1 a2 m) (IntKind.wrap .i64 (i3 + 1))
    else
     if !(r7 == a2) then
      some false
     else
      (F35_l4 n a0 a1 a2 m) (IntKind.wrap .i64 (i3 + 1))
  else
   some (decide (((a0).length : Int) ≤ 200))
theorem F35_l4_ok (n : Nat) (a0 : (List Thing)) (a1 : (List Hand)) (a2 : Bool) : ∀ (m : Nat) (i3 : Int), SimL Try.prog D (n + 8) m p35c24 [(0, .one (vw Thing.cod a0)), (1, .one (vw Hand.cod a1)), (2, qb a2), (12, .one (vw Thing.cod a0)), (13, qj ((a0).length : Int)), (14, qj i3)] [] (F35_l4 n a0 a1 a2 m i3) (QB 0 (QT Try.prog D (n + 8) p35c30 (QF false pc35_r 0 F35_e))) := by
 intro m_l4
 induction m_l4 with
 | zero => intro i3; exact SimL.zero'  rfl
 | succ m_l4 ih_l4 =>
  intro i3
  refine SimL.succ ?_
  unfold F35_l4
  refine Sim.seq (.rg [(0, .one (vw Thing.cod a0)), (1, .one (vw Hand.cod a1)), (2, qb a2), (12, .one (vw Thing.cod a0)), (13, qj ((a0).length : Int)), (14, qj i3)] [] (.rd 1 [(15, qb (decide (i3 < ((a0).length : Int))))] [] (.thenN (.seq (.cd _ ?_ ?_)))))
  ·refine Sim.skip (.thenN (.seq (.block (.st 1 [(16, qj i3)] [] (.bn ⟨some 17, .iaddrS 11 12 14, none, []⟩ (fun x5 => [(17, .one (.eptr (Thing.cod.enc x5) 0))]) (fun x5 => []) (fun x5 hr => pe (ei (c := Thing.cod) (k := .i64) hr)) (fun x5 => ?_))))))
   refine SimI.rd 4 [(7, qj i3), (8, qp 8 0), (18, .agg (Thing.cells x5))] [(8, some (.cells (Thing.cells x5))), (8, some (.cells W23))] (.thenN (.st 2 [(21, .agg [lj x5.At.X, lj x5.At.Y]), (20, qp 8 1)] [] (.cl 22 true [[]] 64 [21] none (fun r6 => .tup [qj r6.1, qj r6.2]) [.agg [lj x5.At.X, lj x5.At.Y]] (F64_ok _ _) (fun r6 => ?_))))
   refine SimI.rd 6 [(10, qj r6.2), (9, qp 9 0), (24, qj r6.2), (23, qj r6.1), (19, .tup [qj r6.1, qj r6.2])] [(9, some (.cells [lj r6.1])), (9, some (.cells [lj 0]))] (.thenN (.st 2 [(26, .one (.fn 66 [.ptr 9 0])), (25, .one (vw Hand.cod a1))] [] (.bn ⟨some 27, .gcall false false [9, 300000, 300001, 300002, 300003, 300004, 300005, 300006, 300007] [[(0, 2)], []] 65 [25, 26], none, []⟩ (fun r7 => [(27, qb r7)]) (fun r7 => [(9, some (.cells [lj r6.1]))]) (fun r7 hr => pe (gq (ks := [9]) (ARGS := [.one (vw Hand.cod a1), .one (.fn 66 [.ptr 9 0])]) (F65s0_ok _ _ _ _ hr))) (fun r7 => ?_))))
   refine SimI.rd 1 [(11, qb r7)] [] (.thenN (.st 1 [(28, .agg (Thing.cells x5))] [] (.cm 29 false [[]] 67 [28] none [(28, .imm)] (F67_ok _ _) (fun r8 => ?_))))
   refine SimI.rn 2 [(31, qb (!(r8))), (30, qb (!(r8)))] [] (.sp 31 _ ?_ ?_)
   ·exact SimI.rd 19 ([(50, qb true), (49, tz), (48, tz), (47, tz), (46, qb true), (45, qb true)] ++ rp [44, 43, 42, 41, 40, 39, 38, 37, 36, 35, 34, 33, 32] tz) [] (.thenN (.ct (.sr 1 [(6, qb false)] [] (.ret (.blockR (.thenR (.loopR (.blockR (.thenR .fn)))))))))
   ·refine SimI.rn 3 (rp [34, 33] (qb (decide ((0 : Int) < i3))) ++ [(32, qj i3)]) [] (.sp 34 _ ?_ ?_)
    ·refine SimI.rn 5 [(39, qj (iw .i64 (i3 - 1))), (38, qj i3), (37, .one (vw Thing.cod a0)), (36, qj x5.ID), (35, qp 8 0)] [] (.bn ⟨some 40, .iaddrS 11 37 39, some (34, true), [(37, .imm), (39, .imm)]⟩ (fun x9 => [(40, .one (.eptr (Thing.cod.enc x9) 0))]) (fun x9 => []) (fun x9 hr => pe (ei (c := Thing.cod) (k := .i64) hr)) (fun x9 => ?_))
     refine SimI.rn 6 (rp [46, 45, 44, 43] (qb (decide (x5.ID ≤ x9.ID))) ++ [(42, qj x9.ID), (41, .one (.eptr (Thing.cod.enc x9) 0))]) [] (.sp 46 _ ?_ ?_)
     ·exact SimI.rd 4 [(50, qb true), (49, tz), (48, tz), (47, tz)] [] (.thenN (.ct (.sr 1 [(6, qb false)] [] (.ret (.blockR (.thenR (.loopR (.blockR (.thenR .fn)))))))))
     ·refine SimI.rd 4 (rp [50, 49] (qb (!(r7 == a2))) ++ [(48, qb a2), (47, qb r7)]) [] (.thenN (.cd _ ?_ ?_))
      ·exact Sim.sr 1 [(6, qb false)] [] (.ret (.blockR (.thenR (.loopR (.blockR (.thenR .fn))))))
      ·refine Sim.skip (.blockN (.thenN (.region0 (.rd 2 (rp [14, 51] (qj (iw .i64 (i3 + 1)))) [] (.loopN (.pr [0, 1, 2, 12, 13, 14] [8, 9] [] [(0, .one (vw Thing.cod a0)), (1, .one (vw Hand.cod a1)), (2, qb a2), (12, .one (vw Thing.cod a0)), (13, qj ((a0).length : Int)), (14, qj (iw .i64 (i3 + 1)))] [] ?_))))))
       exact ih_l4 (iw .i64 (i3 + 1))
    ·refine SimI.rd 16 (rp [50, 49] (qb (!(r7 == a2))) ++ [(48, qb a2), (47, qb r7)] ++ rp [46, 45, 44] (qb false) ++ rp [43, 42, 41, 40, 39, 38, 37, 36, 35] tz) [] (.thenN (.cd _ ?_ ?_))
     ·exact Sim.sr 1 [(6, qb false)] [] (.ret (.blockR (.thenR (.loopR (.blockR (.thenR .fn))))))
     ·refine Sim.skip (.blockN (.thenN (.region0 (.rd 2 (rp [14, 51] (qj (iw .i64 (i3 + 1)))) [] (.loopN (.pr [0, 1, 2, 12, 13, 14] [8, 9] [] [(0, .one (vw Thing.cod a0)), (1, .one (vw Hand.cod a1)), (2, qb a2), (12, .one (vw Thing.cod a0)), (13, qj ((a0).length : Int)), (14, qj (iw .i64 (i3 + 1)))] [] ?_))))))
      exact ih_l4 (iw .i64 (i3 + 1))
  ·exact Sim.exit (.thenX (.loopX (.blockX (.thenN (.sr 4 (rp [6, 54] (qb (decide (((a0).length : Int) ≤ 200))) ++ [(53, qj ((a0).length : Int)), (52, .one (vw Thing.cod a0))]) [] (.ret .fn))))))
def F35 (n : Nat) (a0 : (List Thing)) (a1 : (List Hand)) (a2 : Bool) : Option Bool :=
 F35_l4 n a0 a1 a2 (n + 8) 0
theorem F35_ok (n : Nat) (a0 : (List Thing)) (a1 : (List Hand)) (a2 : Bool) : ∀ r, F35 n a0 a1 a2 = some r → D 35 [.one (vw Thing.cod a0), .one (vw Hand.cod a1), .one (lb a2)] [] = some (F35_e r) := by
 refine fn_to (D := D) (n := n + 8) (nt := 55) (rs := pc35_r) (c := p35c32) (L := [(0, .one (vw Thing.cod a0)), (1, .one (vw Hand.cod a1)), (2, qb a2)]) (M := []) (k := 0) rfl rfl rfl rfl rfl rfl rfl ?_
 unfold F35
 refine Sim.sr 1 [(6, qb false)] [] (.seq (.sr 3 [(14, qj 0), (13, qj ((a0).length : Int)), (12, .one (vw Thing.cod a0))] [] (.block (.loop (.pr [0, 1, 2, 12, 13, 14] [8, 9] [] [(0, .one (vw Thing.cod a0)), (1, .one (vw Hand.cod a1)), (2, qb a2), (12, .one (vw Thing.cod a0)), (13, qj ((a0).length : Int)), (14, qj 0)] [] ?_)))))
 exact F35_l4_ok n a0 a1 a2 (n + 8) 0
def F68s0_e (a0 : (List Command)) : Int → PV × List Ob := fun r => (.one (li .i64 r), [])
def F68s0_l4 (n : Nat) (a0 : (List Command)) : Nat → Int → Option Int
 | 0, _ => none
 | m + 1, i3 =>
  if decide (i3 < ((a0).length : Int)) then
   (ix a0 i3).bind fun (x5 : Command) =>
   (F31 n x5).bind fun (r6 : Bool) =>
   if r6 then
    some i3
   else
    (F68s0_l4 n a0 m) (IntKind.wrap .i64 (i3 + 1))
  else
   some (-1)
theorem F68s0_l4_ok (n : Nat) (a0 : (List Command)) : ∀ (m : Nat) (i3 : Int), SimL Try.prog D (n + 8) m p68c20 [(0, .one (vw Command.cod a0)), (1, .one (.val (.func (.func 31) #[] #[]))), (7, qj ((a0).length : Int)), (8, qj i3)] [] (F68s0_l4 n a0 m i3) (QB 0 (QT Try.prog D (n + 8) p68c26 (QF false pc68_r 0 (F68s0_e a0)))) := by
 intro m_l4
 induction m_l4 with
 | zero => intro i3; exact SimL.zero'  rfl
 | succ m_l4 ih_l4 =>
  intro i3
  refine SimL.succ ?_
  unfold F68s0_l4
  refine Sim.seq (.rg [(0, .one (vw Command.cod a0)), (1, .one (.val (.func (.func 31) #[] #[]))), (7, qj ((a0).length : Int)), (8, qj i3)] [] (.rd 1 [(9, qb (decide (i3 < ((a0).length : Int))))] [] (.thenN (.seq (.cd _ ?_ ?_)))))
  ·refine Sim.skip (.thenN (.seq (.block (.sr 2 [(5, qj i3), (10, qj i3)] [] (.st 3 [(13, qj i3), (12, .one (vw Command.cod a0)), (11, .one (.val (.func (.func 31) #[] #[])))] [] (.bn ⟨some 14, .iaddrS 22 12 13, none, []⟩ (fun x5 => [(14, .one (.eptr (Command.cod.enc x5) 0))]) (fun x5 => []) (fun x5 hr => pe (ei (c := Command.cod) (k := .i64) hr)) (fun x5 => ?_)))))))
   refine SimI.rn 1 [(15, .agg (Command.cells x5))] [] (.bn ⟨some 16, .callv true [[]] 11 [15], none, []⟩ (fun r6 => [(16, qb r6)]) (fun r6 => []) (fun r6 hr => pe (eff_callvv (by kernel_rfl) (ARGS := [.agg (Command.cells x5)]) (by kernel_rfl) (args_clean (by kernel_rfl) args_nil) (F31_ok _ _ _ hr) (by kernel_rfl))) (fun r6 => ?_))
   refine SimI.dn (.thenN (.cd _ ?_ ?_))
   ·exact Sim.sr 2 [(4, qj i3), (17, qj i3)] [] (.ret (.blockR (.thenR (.loopR (.blockR (.thenR .fn))))))
   ·refine Sim.skip (.blockN (.thenN (.region0 (.rd 2 (rp [8, 18] (qj (iw .i64 (i3 + 1)))) [] (.loopN (.pr [0, 1, 7, 8] [] [] [(0, .one (vw Command.cod a0)), (1, .one (.val (.func (.func 31) #[] #[]))), (7, qj ((a0).length : Int)), (8, qj (iw .i64 (i3 + 1)))] [] ?_))))))
    exact ih_l4 (iw .i64 (i3 + 1))
  ·exact Sim.exit (.thenX (.loopX (.blockX (.thenN (.sr 1 [(4, qj (-1))] [] (.ret .fn))))))
def F68s0 (n : Nat) (a0 : (List Command)) : Option Int :=
 F68s0_l4 n a0 (n + 8) 0
theorem F68s0_ok (n : Nat) (a0 : (List Command)) : ∀ r, F68s0 n a0 = some r → D 68 [.one (vw Command.cod a0), .one (.val (.func (.func 31) #[] #[]))] [] = some ((F68s0_e a0) r) := by
 refine fn_to (D := D) (n := n + 8) (nt := 19) (rs := pc68_r) (c := p68c28) (L := [(0, .one (vw Command.cod a0)), (1, .one (.val (.func (.func 31) #[] #[])))]) (M := []) (k := 0) rfl rfl rfl rfl rfl rfl rfl ?_
 unfold F68s0
 refine Sim.sr 1 [(4, qj 0)] [] (.seq (.sr 3 [(8, qj 0), (7, qj ((a0).length : Int)), (6, .one (vw Command.cod a0))] [] (.block (.loop (.pr [0, 1, 7, 8] [] [] [(0, .one (vw Command.cod a0)), (1, .one (.val (.func (.func 31) #[] #[]))), (7, qj ((a0).length : Int)), (8, qj 0)] [] ?_)))))
 exact F68s0_l4_ok n a0 (n + 8) 0
def F36s0_e (a0 : (List Command)) : Bool → PV × List Ob := fun r => (.one (lb r), [])
def F36s0 (n : Nat) (a0 : (List Command)) : Option Bool :=
 (F68s0 n a0).bind fun (r1 : Int) =>
 some (decide ((0 : Int) ≤ r1))
theorem F36s0_ok (n : Nat) (a0 : (List Command)) : ∀ r, F36s0 n a0 = some r → D 36 [.one (vw Command.cod a0), .one (.val (.func (.func 31) #[] #[]))] [] = some ((F36s0_e a0) r) := by
 refine fn_to (D := D) (n := n + 8) (nt := 9) (rs := pc36_r) (c := p36c5) (L := [(0, .one (vw Command.cod a0)), (1, .one (.val (.func (.func 31) #[] #[])))]) (M := []) (k := 0) rfl rfl rfl rfl rfl rfl rfl ?_
 unfold F36s0
 refine Sim.sr 1 [(4, qb false)] [] (.st 2 [(6, .one (.val (.func (.func 31) #[] #[]))), (5, .one (vw Command.cod a0))] [] (.bn ⟨some 7, .gcall false false W103 [[(0, 22)], []] 68 [5, 6], none, []⟩ (fun r1 => [(7, qj r1)]) (fun r1 => []) (fun r1 hr => pe (gq (ks := []) (ARGS := [.one (vw Command.cod a0), .one (.val (.func (.func 31) #[] #[]))]) (F68s0_ok _ _ _ hr))) (fun r1 => ?_)))
 exact SimI.rd 2 (rp [4, 8] (qb (decide ((0 : Int) ≤ r1)))) [] (.thenN (.ret .fn))
def F11_e : Bool → PV × List Ob := fun r => (.one (lb r), [])
def F11 (n : Nat) (a0 : Note) (a1 : Int) : Option Bool :=
 if decide (a0.From < 0) then
  some false
 else
  if decide (imin a1 4 ≤ a0.From) then
   some false
  else
   if decide (a0.Beat < 0) then
    some false
   else
    if decide ((1073741824 : Int) < a0.Beat) then
     some false
    else
     if decide ((20 : Int) < ((a0.Watch).length : Int)) then
      some false
     else
      (F34 n a0.Hands a0.From (imin a1 4)).bind fun (r1 : Bool) =>
      if r1 then
       (F35 n a0.Moved a0.Hands false).bind fun (r2 : Bool) =>
       if r2 then
        (F35 n a0.Given a0.Hands true).bind fun (r3 : Bool) =>
        if r3 then
         (F36s0 n a0.Watch).bind fun (r4 : Bool) =>
         some (!(r4))
        else
         some false
       else
        some false
      else
       some false
theorem F11_ok (n : Nat) (a0 : Note) (a1 : Int) : ∀ r, F11 n a0 a1 = some r → D 11 [.agg [li .i64 a0.From, li .i64 a0.Beat, vw Thing.cod a0.Moved, vw Hand.cod a0.Hands, vw Thing.cod a0.Given, vw Command.cod a0.Watch], .one (li .i64 a1)] [] = some (F11_e r) := by
 refine fn_to (D := D) (n := n + 8) (nt := 60) (rs := pc11_r) (c := p11c17) (L := [(0, .agg (w0 a0)), (1, qj a1)]) (M := []) (k := 0) rfl rfl rfl rfl rfl rfl rfl ?_
 unfold F11
 refine Sim.sr 2 [(4, qb false), (2, qp 2 0)] [(2, some (.cells (w0 a0)))] (.sr 3 [(1, qj (imin a1 4)), (7, qj (imin a1 4)), (6, qj a1)] [] (.seq (.st 4 (rp [11, 10] (qb (decide (a0.From < 0))) ++ [(9, qj a0.From), (8, qp 2 0)]) [] (.sp 11 _ ?_ ?_))))
 ·exact SimI.rd 21 [(32, qb true), (31, tz), (30, tz), (29, tz), (28, tz), (27, qb true), (26, qb true), (25, tz), (24, tz), (23, tz), (22, qb true), (21, qb true), (20, tz), (19, tz), (18, tz), (17, qb true), (16, qb true), (15, tz), (14, tz), (13, tz), (12, tz)] [] (.thenN (.ct (.sr 1 [(4, qb false)] [] (.ret (.thenR .fn)))))
 ·refine SimI.rn 6 (rp [17, 16, 15] (qb (decide (imin a1 4 ≤ a0.From))) ++ [(14, qj (imin a1 4)), (13, qj a0.From), (12, qp 2 0)]) [] (.sp 17 _ ?_ ?_)
  ·exact SimI.rd 15 [(32, qb true), (31, tz), (30, tz), (29, tz), (28, tz), (27, qb true), (26, qb true), (25, tz), (24, tz), (23, tz), (22, qb true), (21, qb true), (20, tz), (19, tz), (18, tz)] [] (.thenN (.ct (.sr 1 [(4, qb false)] [] (.ret (.thenR .fn)))))
  ·refine SimI.rn 5 (rp [22, 21, 20] (qb (decide (a0.Beat < 0))) ++ [(19, qj a0.Beat), (18, qp 2 1)]) [] (.sp 22 _ ?_ ?_)
   ·exact SimI.rd 10 [(32, qb true), (31, tz), (30, tz), (29, tz), (28, tz), (27, qb true), (26, qb true), (25, tz), (24, tz), (23, tz)] [] (.thenN (.ct (.sr 1 [(4, qb false)] [] (.ret (.thenR .fn)))))
   ·refine SimI.rn 5 (rp [27, 26, 25] (qb (decide ((1073741824 : Int) < a0.Beat))) ++ [(24, qj a0.Beat), (23, qp 2 1)]) [] (.sp 27 _ ?_ ?_)
    ·exact SimI.rd 5 [(32, qb true), (31, tz), (30, tz), (29, tz), (28, tz)] [] (.thenN (.ct (.sr 1 [(4, qb false)] [] (.ret (.thenR .fn)))))
    ·refine SimI.rd 5 (rp [32, 31] (qb (decide ((20 : Int) < ((a0.Watch).length : Int)))) ++ [(30, qj ((a0.Watch).length : Int)), (29, .one (vw Command.cod a0.Watch)), (28, qp 2 5)]) [] (.thenN (.cd _ ?_ ?_))
     ·exact Sim.sr 1 [(4, qb false)] [] (.ret (.thenR .fn))
     ·refine Sim.skip (.thenN (.sr 1 [(5, .one (.val (.func (.func 31) #[] #[])))] [] (.st 5 [(37, qj (imin a1 4)), (36, qj a0.From), (35, qp 2 0), (34, .one (vw Hand.cod a0.Hands)), (33, qp 2 3)] [] (.cl 38 true [[(0, 2)], [], []] 34 [34, 36, 37] none (fun r1 => qb r1) [.one (vw Hand.cod a0.Hands), qj a0.From, qj (imin a1 4)] (F34_ok _ _ _ _) (fun r1 => ?_)))))
      refine SimI.rn 1 [(39, qb r1)] [] (.sp 39 _ ?_ ?_)
      ·refine SimI.rn 4 [(43, .one (vw Hand.cod a0.Hands)), (42, qp 2 3), (41, .one (vw Thing.cod a0.Moved)), (40, qp 2 2)] [] (.cl 44 true [[(0, 11)], [(0, 2)], []] 35 [41, 43, kf] (some (39, true)) (fun r2 => qb r2) [.one (vw Thing.cod a0.Moved), .one (vw Hand.cod a0.Hands), qb false] (F35_ok _ _ _ _) (fun r2 => ?_))
       refine SimI.rn 2 [(46, qb r2), (45, qb r2)] [] (.sp 46 _ ?_ ?_)
       ·refine SimI.rn 4 [(50, .one (vw Hand.cod a0.Hands)), (49, qp 2 3), (48, .one (vw Thing.cod a0.Given)), (47, qp 2 4)] [] (.cl 51 true [[(0, 11)], [(0, 2)], []] 35 [48, 50, kt] (some (46, true)) (fun r3 => qb r3) [.one (vw Thing.cod a0.Given), .one (vw Hand.cod a0.Hands), qb true] (F35_ok _ _ _ _) (fun r3 => ?_))
        refine SimI.rn 2 [(53, qb r3), (52, qb r3)] [] (.sp 53 _ ?_ ?_)
        ·refine SimI.rn 3 [(56, .one (.val (.func (.func 31) #[] #[]))), (55, .one (vw Command.cod a0.Watch)), (54, qp 2 5)] [] (.bn ⟨some 57, .gcall false false W103 [[(0, 22)], []] 36 [55, 56], some (53, true), []⟩ (fun r4 => [(57, qb r4)]) (fun r4 => []) (fun r4 hr => pe (gq (ks := []) (ARGS := [.one (vw Command.cod a0.Watch), .one (.val (.func (.func 31) #[] #[]))]) (F36s0_ok _ _ _ hr))) (fun r4 => ?_))
         exact SimI.rd 3 (rp [4, 59, 58] (qb (!(r4)))) [] (.thenN (.ret .fn))
        ·exact SimI.rd 7 ([(4, qb false), (59, qb false)] ++ rp [58, 57, 56, 55, 54] tz) [] (.thenN (.ret .fn))
       ·exact SimI.rd 14 ([(4, qb false), (59, qb false)] ++ rp [58, 57, 56, 55, 54] tz ++ [(53, qb false), (52, qb false)] ++ rp [51, 50, 49, 48, 47] tz) [] (.thenN (.ret .fn))
      ·exact SimI.rd 21 ([(4, qb false), (59, qb false)] ++ rp [58, 57, 56, 55, 54] tz ++ [(53, qb false), (52, qb false)] ++ rp [51, 50, 49, 48, 47] tz ++ [(46, qb false), (45, qb false)] ++ rp [44, 43, 42, 41, 40] tz) [] (.thenN (.ret .fn))
def F20_e : ByteArray → PV × List Ob := fun r => (.one (ls r), [])
def F20_l7 (n : Nat) : Nat → Int → (List Int) → Option ByteArray
 | 0, _, _ => none
 | m + 1, i5, l6 =>
  if decide ((128 : Int) ≤ i5) then
   if ((l6).length + 1) * 1 ≤ maxCells ∧ (l6).length + 1 ≤ maxCells then
    (F20_l7 n m) (shrI .u64 i5 7) (l6 ++ [bitsI .or .u8 (IntKind.wrap .u8 i5) 128])
   else none
  else
   if ((l6).length + 1) * 1 ≤ maxCells ∧ (l6).length + 1 ≤ maxCells then
    some (mkStr (l6 ++ [IntKind.wrap .u8 i5]))
   else none
theorem F20_l7_ok (n : Nat) : ∀ (m : Nat) (i5 : Int) (l6 : (List Int)), SimL Try.prog D (n + 8) m p20c12 [(0, .one (li .u64 i5)), (3, .one (.osl 100003 0 0 (l6).length))] [(100003, some (.arr 5 (codI .u8).sz 0 (l6).length (getOf (codI .u8) l6)))] (F20_l7 n m i5 l6) (QB 0 (QT Try.prog D (n + 8) p20c17 (QF false pc20_r 0 F20_e))) := by
 intro m_l7
 induction m_l7 with
 | zero => intro i5 l6; exact SimL.zero'  rfl
 | succ m_l7 ih_l7 =>
  intro i5 l6
  refine SimL.succ ?_
  unfold F20_l7
  refine Sim.seq (.seq (.rg [(0, .one (li .u64 i5)), (3, .one (.osl 100003 0 0 (l6).length))] [(100003, some (.arr 5 (codI .u8).sz 0 (l6).length (getOf (codI .u8) l6)))] (.rd 2 [(5, qb (decide ((128 : Int) ≤ i5))), (4, .one (li .u64 i5))] [] (.thenN (.cd _ ?_ ?_)))))
  ·refine Sim.skip (.thenN (.block (.st 5 [(10, .one (vw (codI .u8) [bitsI .or .u8 (iw .u8 i5) 128])), (9, .one (li .u8 (bitsI .or .u8 (iw .u8 i5) 128))), (8, .one (li .u8 (iw .u8 i5))), (7, .one (li .u64 i5)), (6, .one (.osl 100003 0 0 (l6).length))] [] (.gu ⟨some 11, .app 100003 5 1 1 6 10, none, []⟩ [(11, .one (.osl 100003 (0 + 1) 0 ((l6 ++ [bitsI .or .u8 (iw .u8 i5) 128])).length))] [(100003, some (.arr 5 (codI .u8).sz (0 + 1) ((l6 ++ [bitsI .or .u8 (iw .u8 i5) 128])).length (getOf (codI .u8) (l6 ++ [bitsI .or .u8 (iw .u8 i5) 128]))))] (fun hc => pe (eff_appO (c := (codI .u8)) (g := 0) (l := l6) (a := bitsI .or .u8 (iw .u8 i5) 128) (by kernel_rfl) (by kernel_rfl) (by kernel_rfl) (by kernel_rfl) hc)) (.rd 1 [(3, .one (.osl 100003 (0 + 1) 0 ((l6 ++ [bitsI .or .u8 (iw .u8 i5) 128])).length))] [] (.thenN (.region0 (.rd 3 (rp [0, 13] (.one (li .u64 (shrI .u64 i5 7))) ++ [(12, .one (li .u64 i5))]) [] (.blockN (.loopN (.pr [0, 3] [100003] [(false, 3, 0, 100003, 5, 1)] [(0, .one (li .u64 (shrI .u64 i5 7))), (3, .one (.osl 100003 0 0 ((l6 ++ [bitsI .or .u8 (iw .u8 i5) 128])).length))] [(100003, some (.arr 5 (codI .u8).sz 0 ((l6 ++ [bitsI .or .u8 (iw .u8 i5) 128])).length (getOf (codI .u8) (l6 ++ [bitsI .or .u8 (iw .u8 i5) 128]))))] ?_)))))))))))
   exact ih_l7 (shrI .u64 i5 7) (l6 ++ [bitsI .or .u8 (iw .u8 i5) 128])
  ·exact Sim.exit (.thenX (.loopX (.blockX (.thenN (.st 4 [(17, .one (vw (codI .u8) [IntKind.wrap .u8 i5])), (16, .one (li .u8 (iw .u8 i5))), (15, .one (li .u64 i5)), (14, .one (.osl 100003 0 0 (l6).length))] [] (.gu ⟨some 18, .app 100003 5 1 1 14 17, none, []⟩ [(18, .one (.osl 100003 (0 + 1) 0 ((l6 ++ [IntKind.wrap .u8 i5])).length))] [(100003, some (.arr 5 (codI .u8).sz (0 + 1) ((l6 ++ [IntKind.wrap .u8 i5])).length (getOf (codI .u8) (l6 ++ [IntKind.wrap .u8 i5]))))] (fun hc => pe (eff_appO (c := (codI .u8)) (g := 0) (l := l6) (a := IntKind.wrap .u8 i5) (by kernel_rfl) (by kernel_rfl) (by kernel_rfl) (by kernel_rfl) hc)) (.se ⟨some 19, .b2s 18, none, []⟩ [(19, qs (mkStr (l6 ++ [IntKind.wrap .u8 i5])))] [] (pe (eff_b2sO (l := (l6 ++ [IntKind.wrap .u8 i5])) (k := 100003) (g := (0 + 1)) (el := 5) (by kernel_rfl) (by kernel_rfl))) (.rd 1 [(2, qs (mkStr (l6 ++ [IntKind.wrap .u8 i5])))] [] (.thenN (.ret .fn))))))))))
def F20 (n : Nat) (a0 : Int) : Option ByteArray :=
 F20_l7 n (n + 8) a0 ([] : List Int)
theorem F20_ok (n : Nat) (a0 : Int) : ∀ r, F20 n a0 = some r → D 20 [.one (li .u64 a0)] [] = some (F20_e r) := by
 refine fn_to (D := D) (n := n + 8) (nt := 20) (rs := pc20_r) (c := p20c20) (L := [(0, .one (li .u64 a0))]) (M := []) (k := 0) rfl rfl rfl rfl rfl rfl rfl ?_
 unfold F20
 refine Sim.sr 1 [(2, qs be)] [] (.sr 1 [(3, .one (lnil))] [] (.seq (.block (.loop (.pr [0, 3] [100003] [(false, 3, 0, 100003, 5, 1)] [(0, .one (li .u64 a0)), (3, .one (.osl 100003 0 0 (([] : List Int)).length))] [(100003, some (.arr 5 (codI .u8).sz 0 (([] : List Int)).length (getOf (codI .u8) ([] : List Int))))] ?_)))))
 exact F20_l7_ok n (n + 8) a0 ([] : List Int)
def F77_e : Int → PV × List Ob := fun r => (.one (li .u64 r), [])
def F77 (n : Nat) (a0 : Int) : Option Int :=
 some (bitsI .xor .u64 (shlI .u64 (IntKind.wrap .u64 a0) 1) (IntKind.wrap .u64 (shrI .i64 a0 63)))
theorem F77_ok (n : Nat) (a0 : Int) : ∀ r, F77 n a0 = some r → D 77 [.one (li .i64 a0)] [] = some (F77_e r) := by
 refine fn_to (D := D) (n := n + 8) (nt := 10) (rs := pc77_r) (c := p77c5) (L := [(0, qj a0)]) (M := []) (k := 0) rfl rfl rfl rfl rfl rfl rfl ?_
 unfold F77
 exact Sim.sr 1 [(2, .one (li .u64 0))] [] (.sr 8 (rp [2, 9] (.one (li .u64 (bitsI .xor .u64 (shlI .u64 (iw .u64 a0) 1) (iw .u64 (shrI .i64 a0 63))))) ++ [(8, .one (li .u64 (iw .u64 (shrI .i64 a0 63)))), (7, qj (shrI .i64 a0 63)), (6, qj a0), (5, .one (li .u64 (shlI .u64 (iw .u64 a0) 1))), (4, .one (li .u64 (iw .u64 a0))), (3, qj a0)]) [] (.ret .fn))
def F46_e : ByteArray → PV × List Ob := fun r => (.one (ls r), [])
def F46 (n : Nat) (a0 : Int) : Option ByteArray :=
 (F77 n a0).bind fun (r1 : Int) =>
 (F20 n r1).bind fun (r2 : ByteArray) =>
 some r2
theorem F46_ok (n : Nat) (a0 : Int) : ∀ r, F46 n a0 = some r → D 46 [.one (li .i64 a0)] [] = some (F46_e r) := by
 refine fn_to (D := D) (n := n + 8) (nt := 6) (rs := pc46_r) (c := p46c5) (L := [(0, qj a0)]) (M := []) (k := 0) rfl rfl rfl rfl rfl rfl rfl ?_
 unfold F46
 refine Sim.sr 1 [(2, qs be)] [] (.st 1 [(3, qj a0)] [] (.cl 4 true [[]] 77 [3] none (fun r1 => .one (li .u64 r1)) [qj a0] (F77_ok _ _) (fun r1 => ?_)))
 refine SimI.cl 5 true [[]] 20 [4] none _ _ (F20_ok _ _) (fun r2 => ?_)
 exact SimI.rd 1 [(2, qs r2)] [] (.thenN (.ret .fn))
def F49_e : ByteArray → PV × List Ob := fun r => (.one (ls r), [])
def F49 (n : Nat) (a0 : ByteArray) : Option ByteArray :=
 (F20 n (IntKind.wrap .u64 (a0.size : Int))).bind fun (r1 : ByteArray) =>
 if r1.size + a0.size ≤ 9223372036854775807 then
  some (r1 ++ a0)
 else none
theorem F49_ok (n : Nat) (a0 : ByteArray) : ∀ r, F49 n a0 = some r → D 49 [.one (ls a0)] [] = some (F49_e r) := by
 refine fn_to (D := D) (n := n + 8) (nt := 9) (rs := pc49_r) (c := p49c5) (L := [(0, qs a0)]) (M := []) (k := 0) rfl rfl rfl rfl rfl rfl rfl ?_
 unfold F49
 refine Sim.sr 1 [(2, qs be)] [] (.st 3 [(5, .one (li .u64 (iw .u64 (a0.size : Int)))), (4, qj (a0.size : Int)), (3, qs a0)] [] (.cl 6 true [[]] 20 [5] none (fun r1 => qs r1) [.one (li .u64 (iw .u64 (a0.size : Int)))] (F20_ok _ _) (fun r1 => ?_)))
 exact SimI.rn 1 [(7, qs a0)] [] (.gp 8 (.bin .add 9 false false) [6, 7] none [] (fun hc => pr_addS _ _ _ r1 a0 hc) (.rd 1 [(2, qs (r1 ++ a0))] [] (.thenN (.ret .fn))))
def F89_e : Bool → PV × List Ob := fun r => (.one (lb r), [])
def F89 (n : Nat) (a0 a1 : Int) : Option Bool :=
 if ¬ (IntKind.wrap .i64 (a1 + 1) < 0) then
  some ((bitsI .and .u8 (shrI .u8 a0 (IntKind.wrap .i64 (a1 + 1))) 1) == 1)
 else none
theorem F89_ok (n : Nat) (a0 a1 : Int) : ∀ r, F89 n a0 a1 = some r → D 89 [.one (li .u8 a0), .one (li .i64 a1)] [] = some (F89_e r) := by
 refine fn_to (D := D) (n := n + 8) (nt := 11) (rs := pc89_r) (c := p89c5) (L := [(0, .one (li .u8 a0)), (1, qj a1)]) (M := []) (k := 0) rfl rfl rfl rfl rfl rfl rfl ?_
 unfold F89
 exact Sim.sr 1 [(4, qb false)] [] (.st 3 [(7, qj (iw .i64 (a1 + 1))), (6, qj a1), (5, .one (li .u8 a0))] [] (.gp 8 (.bin .shr 5 false false) [5, 7] none [] (fun hc => pr_shr _ _ _ .u8 .i64 a0 (iw .i64 (a1 + 1)) hc) (.rd 3 (rp [4, 10] (qb ((bitsI .and .u8 (shrI .u8 a0 (iw .i64 (a1 + 1))) 1) == 1)) ++ [(9, .one (li .u8 (bitsI .and .u8 (shrI .u8 a0 (iw .i64 (a1 + 1))) 1)))]) [] (.thenN (.ret .fn)))))
def F88_e : Bool → PV × List Ob := fun r => (.one (lb r), [])
def F88_u15 (n : Nat) : Option Bool :=
  some true
theorem F88_u15_ok (n : Nat) (a0 : Delta) : SimL Try.prog D (n + 8) (n + 4) p88c34 [(1, qp 1 0), (40, .agg (A4_Field.cells a0.F)), (41, qj 4)] (W8 a0) (F88_u15 n) (QB 0 (QT Try.prog D (n + 8) p88c40 (QF false pc88_r 0 F88_e))) := by
  unfold F88_u15
  exact SimL.succ (.seq (.rg (w7 a0) (W8 a0) (.rd 1 [(42, qb false)] [] (.thenN (.seq (.cf (.exit (.thenX (.loopX (.blockX (.thenN (.sr 1 [(2, qb true)] [] (.ret .fn)))))))))))))
def F88_u12 (n : Nat) (a0 : Delta) : Option Bool :=
  (F60 n a0.F.a3).bind fun (r13 : Bool) =>
  if !(r13) then
   some false
  else
   (F89 n a0.Mask 3).bind fun (r14 : Bool) =>
   if !(r14) then
    if !(Field.eqb a0.F.a3 (Field.mk 0 ByteArray.empty)) then
     some false
    else
     F88_u15 n
   else
    F88_u15 n
theorem F88_u12_ok (n : Nat) (a0 : Delta) : SimL Try.prog D (n + 8) (n + 5) p88c34 [(1, qp 1 0), (40, .agg (A4_Field.cells a0.F)), (41, qj 3)] (W8 a0) (F88_u12 n a0) (QB 0 (QT Try.prog D (n + 8) p88c40 (QF false pc88_r 0 F88_e))) := by
  unfold F88_u12
  refine SimL.succ (.seq (.rg (w8 a0) (W8 a0) (.rd 1 [(42, qb true)] [] (.thenN (.seq (.ct (.skip (.thenN (.seq (.block (.sr 5 [(3, qj 3), (4, qp 4 0), (44, .agg (W106 a0)), (43, qj 3)] [(4, some (.cells (W106 a0))), (4, some (.cells [lj 0, ls be]))] (.st 1 [(45, .agg (W106 a0))] [] (.cl 46 true [[]] 60 [45] none (fun r13 => qb r13) [.agg (W106 a0)] (F60_ok _ _) (fun r13 => ?_))))))))))))))
  refine SimI.rn 2 [(48, qb (!(r13))), (47, qb (!(r13)))] [] (.sp 48 _ ?_ ?_)
  ·exact SimI.rd 11 ([(59, qb true)] ++ rp W118 tz) [] (.thenN (.ct (.sr 1 [(2, qb false)] [] (.ret (.blockR (.thenR (.loopR (.blockR (.thenR .fn)))))))))
  ·refine SimI.rn 3 [(51, qj 3), (50, .one (li .u8 a0.Mask)), (49, qp 1 1)] [] (.cl 52 true [[], []] 89 [50, 51] (some (48, false)) (fun r14 => qb r14) [.one (li .u8 a0.Mask), qj 3] (F89_ok _ _ _) (fun r14 => ?_))
   refine SimI.rn 2 [(54, qb (!(r14))), (53, qb (!(r14)))] [] (.sp 54 _ ?_ ?_)
   ·refine SimI.rn 2 [(56, .agg [lj 0, ls be]), (55, .agg (W106 a0))] [] (.se ⟨some 57, .prim (.bin .neq 48 false false) [55, 56], some (54, true), []⟩ [(57, qb (!(Field.eqb a0.F.a3 (Field.mk 0 be))))] [] (pe (ep (Field_eqn a0.F.a3 (Field.mk 0 be) _ _))) (.rd 2 (rp [59, 58] (qb (!(Field.eqb a0.F.a3 (Field.mk 0 be))))) [] (.thenN (.cd _ ?_ ?_))))
    ·exact Sim.sr 1 [(2, qb false)] [] (.ret (.blockR (.thenR (.loopR (.blockR (.thenR .fn))))))
    ·refine Sim.skip (.blockN (.thenN (.region0 (.rd 2 [(41, qj 4), (60, qj 4)] [] (.loopN (.pr [1, 40, 41] [1, 4] [] (w7 a0) (W8 a0) ?_))))))
     exact F88_u15_ok n a0
   ·refine SimI.rd 5 W83 [] (.thenN (.cf (.skip (.blockN (.thenN (.region0 (.rd 2 [(41, qj 4), (60, qj 4)] [] (.loopN (.pr [1, 40, 41] [1, 4] [] (w7 a0) (W8 a0) ?_)))))))))
    exact F88_u15_ok n a0
def F88_u9 (n : Nat) (a0 : Delta) : Option Bool :=
  (F60 n a0.F.a2).bind fun (r10 : Bool) =>
  if !(r10) then
   some false
  else
   (F89 n a0.Mask 2).bind fun (r11 : Bool) =>
   if !(r11) then
    if !(Field.eqb a0.F.a2 (Field.mk 0 ByteArray.empty)) then
     some false
    else
     F88_u12 n a0
   else
    F88_u12 n a0
theorem F88_u9_ok (n : Nat) (a0 : Delta) : SimL Try.prog D (n + 8) (n + 6) p88c34 [(1, qp 1 0), (40, .agg (A4_Field.cells a0.F)), (41, qj 2)] (W8 a0) (F88_u9 n a0) (QB 0 (QT Try.prog D (n + 8) p88c40 (QF false pc88_r 0 F88_e))) := by
  unfold F88_u9
  refine SimL.succ (.seq (.rg (w9 a0) (W8 a0) (.rd 1 [(42, qb true)] [] (.thenN (.seq (.ct (.skip (.thenN (.seq (.block (.sr 5 [(3, qj 2), (4, qp 4 0), (44, .agg (W107 a0)), (43, qj 2)] [(4, some (.cells (W107 a0))), (4, some (.cells [lj 0, ls be]))] (.st 1 [(45, .agg (W107 a0))] [] (.cl 46 true [[]] 60 [45] none (fun r10 => qb r10) [.agg (W107 a0)] (F60_ok _ _) (fun r10 => ?_))))))))))))))
  refine SimI.rn 2 [(48, qb (!(r10))), (47, qb (!(r10)))] [] (.sp 48 _ ?_ ?_)
  ·exact SimI.rd 11 ([(59, qb true)] ++ rp W118 tz) [] (.thenN (.ct (.sr 1 [(2, qb false)] [] (.ret (.blockR (.thenR (.loopR (.blockR (.thenR .fn)))))))))
  ·refine SimI.rn 3 [(51, qj 2), (50, .one (li .u8 a0.Mask)), (49, qp 1 1)] [] (.cl 52 true [[], []] 89 [50, 51] (some (48, false)) (fun r11 => qb r11) [.one (li .u8 a0.Mask), qj 2] (F89_ok _ _ _) (fun r11 => ?_))
   refine SimI.rn 2 [(54, qb (!(r11))), (53, qb (!(r11)))] [] (.sp 54 _ ?_ ?_)
   ·refine SimI.rn 2 [(56, .agg [lj 0, ls be]), (55, .agg (W107 a0))] [] (.se ⟨some 57, .prim (.bin .neq 48 false false) [55, 56], some (54, true), []⟩ [(57, qb (!(Field.eqb a0.F.a2 (Field.mk 0 be))))] [] (pe (ep (Field_eqn a0.F.a2 (Field.mk 0 be) _ _))) (.rd 2 (rp [59, 58] (qb (!(Field.eqb a0.F.a2 (Field.mk 0 be))))) [] (.thenN (.cd _ ?_ ?_))))
    ·exact Sim.sr 1 [(2, qb false)] [] (.ret (.blockR (.thenR (.loopR (.blockR (.thenR .fn))))))
    ·refine Sim.skip (.blockN (.thenN (.region0 (.rd 2 [(41, qj 3), (60, qj 3)] [] (.loopN (.pr [1, 40, 41] [1, 4] [] (w8 a0) (W8 a0) ?_))))))
     exact F88_u12_ok n a0
   ·refine SimI.rd 5 W83 [] (.thenN (.cf (.skip (.blockN (.thenN (.region0 (.rd 2 [(41, qj 3), (60, qj 3)] [] (.loopN (.pr [1, 40, 41] [1, 4] [] (w8 a0) (W8 a0) ?_)))))))))
    exact F88_u12_ok n a0
def F88_u6 (n : Nat) (a0 : Delta) : Option Bool :=
  (F60 n a0.F.a1).bind fun (r7 : Bool) =>
  if !(r7) then
   some false
  else
   (F89 n a0.Mask 1).bind fun (r8 : Bool) =>
   if !(r8) then
    if !(Field.eqb a0.F.a1 (Field.mk 0 ByteArray.empty)) then
     some false
    else
     F88_u9 n a0
   else
    F88_u9 n a0
theorem F88_u6_ok (n : Nat) (a0 : Delta) : SimL Try.prog D (n + 8) (n + 7) p88c34 [(1, qp 1 0), (40, .agg (A4_Field.cells a0.F)), (41, qj 1)] (W8 a0) (F88_u6 n a0) (QB 0 (QT Try.prog D (n + 8) p88c40 (QF false pc88_r 0 F88_e))) := by
  unfold F88_u6
  refine SimL.succ (.seq (.rg (w10 a0) (W8 a0) (.rd 1 [(42, qb true)] [] (.thenN (.seq (.ct (.skip (.thenN (.seq (.block (.sr 5 [(3, qj 1), (4, qp 4 0), (44, .agg (W108 a0)), (43, qj 1)] [(4, some (.cells (W108 a0))), (4, some (.cells [lj 0, ls be]))] (.st 1 [(45, .agg (W108 a0))] [] (.cl 46 true [[]] 60 [45] none (fun r7 => qb r7) [.agg (W108 a0)] (F60_ok _ _) (fun r7 => ?_))))))))))))))
  refine SimI.rn 2 [(48, qb (!(r7))), (47, qb (!(r7)))] [] (.sp 48 _ ?_ ?_)
  ·exact SimI.rd 11 ([(59, qb true)] ++ rp W118 tz) [] (.thenN (.ct (.sr 1 [(2, qb false)] [] (.ret (.blockR (.thenR (.loopR (.blockR (.thenR .fn)))))))))
  ·refine SimI.rn 3 [(51, qj 1), (50, .one (li .u8 a0.Mask)), (49, qp 1 1)] [] (.cl 52 true [[], []] 89 [50, 51] (some (48, false)) (fun r8 => qb r8) [.one (li .u8 a0.Mask), qj 1] (F89_ok _ _ _) (fun r8 => ?_))
   refine SimI.rn 2 [(54, qb (!(r8))), (53, qb (!(r8)))] [] (.sp 54 _ ?_ ?_)
   ·refine SimI.rn 2 [(56, .agg [lj 0, ls be]), (55, .agg (W108 a0))] [] (.se ⟨some 57, .prim (.bin .neq 48 false false) [55, 56], some (54, true), []⟩ [(57, qb (!(Field.eqb a0.F.a1 (Field.mk 0 be))))] [] (pe (ep (Field_eqn a0.F.a1 (Field.mk 0 be) _ _))) (.rd 2 (rp [59, 58] (qb (!(Field.eqb a0.F.a1 (Field.mk 0 be))))) [] (.thenN (.cd _ ?_ ?_))))
    ·exact Sim.sr 1 [(2, qb false)] [] (.ret (.blockR (.thenR (.loopR (.blockR (.thenR .fn))))))
    ·refine Sim.skip (.blockN (.thenN (.region0 (.rd 2 [(41, qj 2), (60, qj 2)] [] (.loopN (.pr [1, 40, 41] [1, 4] [] (w9 a0) (W8 a0) ?_))))))
     exact F88_u9_ok n a0
   ·refine SimI.rd 5 W83 [] (.thenN (.cf (.skip (.blockN (.thenN (.region0 (.rd 2 [(41, qj 2), (60, qj 2)] [] (.loopN (.pr [1, 40, 41] [1, 4] [] (w9 a0) (W8 a0) ?_)))))))))
    exact F88_u9_ok n a0
def F88_j3 (n : Nat) (a0 : Delta) : Option Bool :=
  (F60 n a0.F.a0).bind fun (r4 : Bool) =>
  if !(r4) then
   some false
  else
   (F89 n a0.Mask 0).bind fun (r5 : Bool) =>
   if !(r5) then
    if !(Field.eqb a0.F.a0 (Field.mk 0 ByteArray.empty)) then
     some false
    else
     F88_u6 n a0
   else
    F88_u6 n a0
theorem F88_j3_ok (n : Nat) (a0 : Delta) : Sim Try.prog D (n + 8) p88c41 [(1, qp 1 0)] (W8 a0) (F88_j3 n a0) (QF false pc88_r 0 F88_e) := by
  unfold F88_j3
  refine Sim.seq (.seq (.rs (.rd 3 [(41, qj 0), (40, .agg (A4_Field.cells a0.F)), (39, qp 1 4)] [] (.thenN (.block (.loop (.succ (.seq (.rg [(1, qp 1 0), (40, .agg (A4_Field.cells a0.F)), (41, qj 0)] (W8 a0) (.rd 1 [(42, qb true)] [] (.thenN (.seq (.ct (.skip (.thenN (.seq (.block (.sr 5 [(3, qj 0), (4, qp 4 0), (44, .agg (W109 a0)), (43, qj 0)] [(4, some (.cells (W109 a0))), (4, some (.cells [lj 0, ls be]))] (.st 1 [(45, .agg (W109 a0))] [] (.cl 46 true [[]] 60 [45] none (fun r4 => qb r4) [.agg (W109 a0)] (F60_ok _ _) (fun r4 => ?_)))))))))))))))))))))
  refine SimI.rn 2 [(48, qb (!(r4))), (47, qb (!(r4)))] [] (.sp 48 _ ?_ ?_)
  ·exact SimI.rd 11 ([(59, qb true)] ++ rp W118 tz) [] (.thenN (.ct (.sr 1 [(2, qb false)] [] (.ret (.blockR (.thenR (.loopR (.blockR (.thenR .fn)))))))))
  ·refine SimI.rn 3 [(51, qj 0), (50, .one (li .u8 a0.Mask)), (49, qp 1 1)] [] (.cl 52 true [[], []] 89 [50, 51] (some (48, false)) (fun r5 => qb r5) [.one (li .u8 a0.Mask), qj 0] (F89_ok _ _ _) (fun r5 => ?_))
   refine SimI.rn 2 [(54, qb (!(r5))), (53, qb (!(r5)))] [] (.sp 54 _ ?_ ?_)
   ·refine SimI.rn 2 [(56, .agg [lj 0, ls be]), (55, .agg (W109 a0))] [] (.se ⟨some 57, .prim (.bin .neq 48 false false) [55, 56], some (54, true), []⟩ [(57, qb (!(Field.eqb a0.F.a0 (Field.mk 0 be))))] [] (pe (ep (Field_eqn a0.F.a0 (Field.mk 0 be) _ _))) (.rd 2 (rp [59, 58] (qb (!(Field.eqb a0.F.a0 (Field.mk 0 be))))) [] (.thenN (.cd _ ?_ ?_))))
    ·exact Sim.sr 1 [(2, qb false)] [] (.ret (.blockR (.thenR (.loopR (.blockR (.thenR .fn))))))
    ·refine Sim.skip (.blockN (.thenN (.region0 (.rd 2 [(41, qj 1), (60, qj 1)] [] (.loopN (.pr [1, 40, 41] [1, 4] [] (w10 a0) (W8 a0) ?_))))))
     exact F88_u6_ok n a0
   ·refine SimI.rd 5 W83 [] (.thenN (.cf (.skip (.blockN (.thenN (.region0 (.rd 2 [(41, qj 1), (60, qj 1)] [] (.loopN (.pr [1, 40, 41] [1, 4] [] (w10 a0) (W8 a0) ?_)))))))))
    exact F88_u6_ok n a0
def F88 (n : Nat) (a0 : Delta) : Option Bool :=
 if decide (a0.ID < 0) then
  some false
 else
  if decide ((1000000 : Int) < a0.ID) then
   some false
  else
   if a0.Mask == 0 then
    some false
   else
    if decide ((31 : Int) < a0.Mask) then
     some false
    else
     if (bitsI .and .u8 a0.Mask 1) == 0 then
      if !(Point.eqb a0.At (Point.mk 0 0)) then
       some false
      else
       (F78 n a0.At).bind fun (r1 : Bool) =>
       if !(r1) then
        some false
       else
        F88_j3 n a0
     else
      (F78 n a0.At).bind fun (r2 : Bool) =>
      if !(r2) then
       some false
      else
       F88_j3 n a0
theorem F88_ok (n : Nat) (a0 : Delta) : ∀ r, F88 n a0 = some r → D 88 [.agg (Delta.cells a0)] [] = some (F88_e r) := by
 refine fn_to (D := D) (n := n + 8) (nt := 61) (rs := pc88_r) (c := p88c44) (L := [(0, .agg (Delta.cells a0))]) (M := []) (k := 0) rfl rfl rfl rfl rfl rfl rfl ?_
 unfold F88
 refine Sim.sr 2 W56 (W8 a0) (.seq (.st 4 (rp [8, 7] (qb (decide (a0.ID < 0))) ++ [(6, qj a0.ID), (5, qp 1 0)]) [] (.sp 8 _ ?_ ?_)))
 ·exact SimI.rd 14 [(22, qb true), (21, tz), (20, tz), (19, tz), (18, qb true), (17, qb true), (16, tz), (15, tz), (14, tz), (13, qb true), (12, qb true), (11, tz), (10, tz), (9, tz)] [] (.thenN (.ct (.sr 1 [(2, qb false)] [] (.ret (.thenR .fn)))))
 ·refine SimI.rn 5 (rp [13, 12, 11] (qb (decide ((1000000 : Int) < a0.ID))) ++ [(10, qj a0.ID), (9, qp 1 0)]) [] (.sp 13 _ ?_ ?_)
  ·exact SimI.rd 9 [(22, qb true), (21, tz), (20, tz), (19, tz), (18, qb true), (17, qb true), (16, tz), (15, tz), (14, tz)] [] (.thenN (.ct (.sr 1 [(2, qb false)] [] (.ret (.thenR .fn)))))
  ·refine SimI.rn 5 (rp [18, 17, 16] (qb (a0.Mask == 0)) ++ [(15, .one (li .u8 a0.Mask)), (14, qp 1 1)]) [] (.sp 18 _ ?_ ?_)
   ·exact SimI.rd 4 [(22, qb true), (21, tz), (20, tz), (19, tz)] [] (.thenN (.ct (.sr 1 [(2, qb false)] [] (.ret (.thenR .fn)))))
   ·refine SimI.rd 4 (rp [22, 21] (qb (decide ((31 : Int) < a0.Mask))) ++ [(20, .one (li .u8 a0.Mask)), (19, qp 1 1)]) [] (.thenN (.cd _ ?_ ?_))
    ·exact Sim.sr 1 [(2, qb false)] [] (.ret (.thenR .fn))
    ·refine Sim.skip (.thenN (.seq (.st 5 (rp [27, 26] (qb ((bitsI .and .u8 a0.Mask 1) == 0)) ++ [(25, .one (li .u8 (bitsI .and .u8 a0.Mask 1))), (24, .one (li .u8 a0.Mask)), (23, qp 1 1)]) [] (.sp 27 _ ?_ ?_))))
     ·refine SimI.rn 3 [(30, .agg [lj 0, lj 0]), (29, .agg [lj a0.At.X, lj a0.At.Y]), (28, qp 1 2)] [] (.se ⟨some 31, .prim (.bin .neq 46 false false) [29, 30], some (27, true), []⟩ [(31, qb (!(Point.eqb a0.At (Point.mk 0 0))))] [] (pe (ep (Point_eqn a0.At (Point.mk 0 0) _ _))) (.rn 2 (rp [33, 32] (qb (!(Point.eqb a0.At (Point.mk 0 0))))) [] (.sp 33 _ ?_ ?_)))
      ·exact SimI.rd 5 [(38, qb true), (37, tz), (36, tz), (35, tz), (34, tz)] [] (.thenN (.ct (.sr 1 [(2, qb false)] [] (.ret (.thenR .fn)))))
      ·refine SimI.rn 2 [(35, .agg [lj a0.At.X, lj a0.At.Y]), (34, qp 1 2)] [] (.cl 36 true [[]] 78 [35] (some (33, false)) (fun r1 => qb r1) [.agg [lj a0.At.X, lj a0.At.Y]] (F78_ok _ _) (fun r1 => ?_))
       refine SimI.rd 2 [(38, qb (!(r1))), (37, qb (!(r1)))] [] (.thenN (.cd _ ?_ ?_))
       ·exact Sim.sr 1 [(2, qb false)] [] (.ret (.thenR .fn))
       ·refine Sim.skip (.thenN (.pr [1] [1] [] [(1, qp 1 0)] (W8 a0) ?_))
        exact F88_j3_ok n a0
     ·refine SimI.rn 8 [(35, .agg [lj a0.At.X, lj a0.At.Y]), (34, qp 1 2), (33, qb false), (32, qb false), (31, tz), (30, tz), (29, tz), (28, tz)] [] (.cl 36 true [[]] 78 [35] (some (33, false)) (fun r2 => qb r2) [.agg [lj a0.At.X, lj a0.At.Y]] (F78_ok _ _) (fun r2 => ?_))
      refine SimI.rd 2 [(38, qb (!(r2))), (37, qb (!(r2)))] [] (.thenN (.cd _ ?_ ?_))
      ·exact Sim.sr 1 [(2, qb false)] [] (.ret (.thenR .fn))
      ·refine Sim.skip (.thenN (.pr [1] [1] [] [(1, qp 1 0)] (W8 a0) ?_))
       exact F88_j3_ok n a0
def F75_e : (ByteArray × Int) → PV × List Ob := fun r => (.tup [.one (ls r.1), .one (li .i64 r.2)], [])
def F75_u27 (n : Nat) (s26 : ByteArray) : Option (ByteArray × Int) :=
  some (s26, 0)
theorem F75_u27_ok (n : Nat) (a0 : Delta) (s26 : ByteArray) : SimL Try.prog D (n + 8) (n + 4) p75c39 (W148 s26 a0) (W8 a0) (F75_u27 n s26) (QB 0 (QT Try.prog D (n + 8) p75c45 (QF false pc75_r 0 F75_e))) := by
  unfold F75_u27
  exact SimL.succ (.seq (.rg (W148 s26 a0) (W8 a0) (.rd 1 [(39, qb false)] [] (.thenN (.seq (.cf (.exit (.thenX (.loopX (.blockX (.thenN (.sr 3 [(3, qj 0), (2, qs s26), (61, qs s26)] [] (.ret .fn)))))))))))))
def F75_u22 (n : Nat) (a0 : Delta) (s21 : ByteArray) : Option (ByteArray × Int) :=
  (F89 n a0.Mask 3).bind fun (r23 : Bool) =>
  if !(r23) then
   F75_u27 n s21
  else
   (F49 n a0.F.a3.Text).bind fun (r24 : ByteArray) =>
   if s21.size + r24.size ≤ 9223372036854775807 then
    if a0.F.a3.Text.toList == ByteArray.empty.toList then
     (F46 n a0.F.a3.N).bind fun (r25 : ByteArray) =>
     if (s21 ++ r24).size + r25.size ≤ 9223372036854775807 then
      F75_u27 n ((s21 ++ r24) ++ r25)
     else none
    else
     F75_u27 n (s21 ++ r24)
   else none
theorem F75_u22_ok (n : Nat) (a0 : Delta) (s21 : ByteArray) : SimL Try.prog D (n + 8) (n + 5) p75c39 (W149 s21 a0) (W8 a0) (F75_u22 n a0 s21) (QB 0 (QT Try.prog D (n + 8) p75c45 (QF false pc75_r 0 F75_e))) := by
  unfold F75_u22
  refine SimL.succ (.seq (.rg (W149 s21 a0) (W8 a0) (.rd 1 [(39, qb true)] [] (.thenN (.seq (.ct (.skip (.thenN (.seq (.block (.sr 5 [(5, qj 3), (6, qp 6 0), (41, .agg (W106 a0)), (40, qj 3)] [(6, some (.cells (W106 a0))), (6, some (.cells [lj 0, ls be]))] (.seq (.st 3 [(44, qj 3), (43, .one (li .u8 a0.Mask)), (42, qp 1 1)] [] (.cl 45 true [[], []] 89 [43, 44] none (fun r23 => qb r23) [.one (li .u8 a0.Mask), qj 3] (F89_ok _ _ _) (fun r23 => ?_)))))))))))))))
  refine SimI.rd 1 [(46, qb (!(r23)))] [] (.thenN (.cd _ ?_ ?_))
  ·refine Sim.exit (.thenX (.blockX (.thenN (.region0 (.rd 2 [(38, qj 4), (60, qj 4)] [] (.loopN (.pr [1, 4, 37, 38] [1, 6] [] (W148 s21 a0) (W8 a0) ?_)))))))
   exact F75_u27_ok n a0 s21
  ·refine Sim.skip (.thenN (.st 3 [(49, qs a0.F.a3.Text), (48, qp 6 1), (47, qs s21)] [] (.cl 50 true [[]] 49 [49] none (fun r24 => qs r24) [qs a0.F.a3.Text] (F49_ok _ _) (fun r24 => ?_))))
   refine SimI.gp 51 (.bin .add 9 false false) [47, 50] none [] (fun hc => pr_addS _ _ _ s21 r24 hc) (.rd 1 [(4, qs (s21 ++ r24))] [] (.thenN (.sr 3 [(54, qb (a0.F.a3.Text.toList == be.toList)), (53, qs a0.F.a3.Text), (52, qp 6 1)] [] (.cd _ ?_ ?_))))
   ·refine Sim.region0 (.rn 3 [(57, qj a0.F.a3.N), (56, qp 6 0), (55, qs (s21 ++ r24))] [] (.cl 58 true [[]] 46 [57] none (fun r25 => qs r25) [qj a0.F.a3.N] (F46_ok _ _) (fun r25 => ?_)))
    refine SimI.gp 59 (.bin .add 9 false false) [55, 58] none [] (fun hc => pr_addS _ _ _ (s21 ++ r24) r25 hc) (.rd 1 [(4, qs ((s21 ++ r24) ++ r25))] [] (.blockN (.thenN (.region0 (.rd 2 [(38, qj 4), (60, qj 4)] [] (.loopN (.pr [1, 4, 37, 38] [1, 6] [] [(1, qp 1 0), (4, qs ((s21 ++ r24) ++ r25)), (37, .agg (A4_Field.cells a0.F)), (38, qj 4)] (W8 a0) ?_)))))))
    exact F75_u27_ok n a0 ((s21 ++ r24) ++ r25)
   ·refine Sim.skip (.blockN (.thenN (.region0 (.rd 2 [(38, qj 4), (60, qj 4)] [] (.loopN (.pr [1, 4, 37, 38] [1, 6] [] [(1, qp 1 0), (4, qs (s21 ++ r24)), (37, .agg (A4_Field.cells a0.F)), (38, qj 4)] (W8 a0) ?_))))))
    exact F75_u27_ok n a0 (s21 ++ r24)
def F75_u17 (n : Nat) (a0 : Delta) (s16 : ByteArray) : Option (ByteArray × Int) :=
  (F89 n a0.Mask 2).bind fun (r18 : Bool) =>
  if !(r18) then
   F75_u22 n a0 s16
  else
   (F49 n a0.F.a2.Text).bind fun (r19 : ByteArray) =>
   if s16.size + r19.size ≤ 9223372036854775807 then
    if a0.F.a2.Text.toList == ByteArray.empty.toList then
     (F46 n a0.F.a2.N).bind fun (r20 : ByteArray) =>
     if (s16 ++ r19).size + r20.size ≤ 9223372036854775807 then
      F75_u22 n a0 ((s16 ++ r19) ++ r20)
     else none
    else
     F75_u22 n a0 (s16 ++ r19)
   else none
theorem F75_u17_ok (n : Nat) (a0 : Delta) (s16 : ByteArray) : SimL Try.prog D (n + 8) (n + 6) p75c39 (W150 s16 a0) (W8 a0) (F75_u17 n a0 s16) (QB 0 (QT Try.prog D (n + 8) p75c45 (QF false pc75_r 0 F75_e))) := by
  unfold F75_u17
  refine SimL.succ (.seq (.rg (W150 s16 a0) (W8 a0) (.rd 1 [(39, qb true)] [] (.thenN (.seq (.ct (.skip (.thenN (.seq (.block (.sr 5 [(5, qj 2), (6, qp 6 0), (41, .agg (W107 a0)), (40, qj 2)] [(6, some (.cells (W107 a0))), (6, some (.cells [lj 0, ls be]))] (.seq (.st 3 [(44, qj 2), (43, .one (li .u8 a0.Mask)), (42, qp 1 1)] [] (.cl 45 true [[], []] 89 [43, 44] none (fun r18 => qb r18) [.one (li .u8 a0.Mask), qj 2] (F89_ok _ _ _) (fun r18 => ?_)))))))))))))))
  refine SimI.rd 1 [(46, qb (!(r18)))] [] (.thenN (.cd _ ?_ ?_))
  ·refine Sim.exit (.thenX (.blockX (.thenN (.region0 (.rd 2 [(38, qj 3), (60, qj 3)] [] (.loopN (.pr [1, 4, 37, 38] [1, 6] [] (W149 s16 a0) (W8 a0) ?_)))))))
   exact F75_u22_ok n a0 s16
  ·refine Sim.skip (.thenN (.st 3 [(49, qs a0.F.a2.Text), (48, qp 6 1), (47, qs s16)] [] (.cl 50 true [[]] 49 [49] none (fun r19 => qs r19) [qs a0.F.a2.Text] (F49_ok _ _) (fun r19 => ?_))))
   refine SimI.gp 51 (.bin .add 9 false false) [47, 50] none [] (fun hc => pr_addS _ _ _ s16 r19 hc) (.rd 1 [(4, qs (s16 ++ r19))] [] (.thenN (.sr 3 [(54, qb (a0.F.a2.Text.toList == be.toList)), (53, qs a0.F.a2.Text), (52, qp 6 1)] [] (.cd _ ?_ ?_))))
   ·refine Sim.region0 (.rn 3 [(57, qj a0.F.a2.N), (56, qp 6 0), (55, qs (s16 ++ r19))] [] (.cl 58 true [[]] 46 [57] none (fun r20 => qs r20) [qj a0.F.a2.N] (F46_ok _ _) (fun r20 => ?_)))
    refine SimI.gp 59 (.bin .add 9 false false) [55, 58] none [] (fun hc => pr_addS _ _ _ (s16 ++ r19) r20 hc) (.rd 1 [(4, qs ((s16 ++ r19) ++ r20))] [] (.blockN (.thenN (.region0 (.rd 2 [(38, qj 3), (60, qj 3)] [] (.loopN (.pr [1, 4, 37, 38] [1, 6] [] [(1, qp 1 0), (4, qs ((s16 ++ r19) ++ r20)), (37, .agg (A4_Field.cells a0.F)), (38, qj 3)] (W8 a0) ?_)))))))
    exact F75_u22_ok n a0 ((s16 ++ r19) ++ r20)
   ·refine Sim.skip (.blockN (.thenN (.region0 (.rd 2 [(38, qj 3), (60, qj 3)] [] (.loopN (.pr [1, 4, 37, 38] [1, 6] [] [(1, qp 1 0), (4, qs (s16 ++ r19)), (37, .agg (A4_Field.cells a0.F)), (38, qj 3)] (W8 a0) ?_))))))
    exact F75_u22_ok n a0 (s16 ++ r19)
def F75_u12 (n : Nat) (a0 : Delta) (s11 : ByteArray) : Option (ByteArray × Int) :=
  (F89 n a0.Mask 1).bind fun (r13 : Bool) =>
  if !(r13) then
   F75_u17 n a0 s11
  else
   (F49 n a0.F.a1.Text).bind fun (r14 : ByteArray) =>
   if s11.size + r14.size ≤ 9223372036854775807 then
    if a0.F.a1.Text.toList == ByteArray.empty.toList then
     (F46 n a0.F.a1.N).bind fun (r15 : ByteArray) =>
     if (s11 ++ r14).size + r15.size ≤ 9223372036854775807 then
      F75_u17 n a0 ((s11 ++ r14) ++ r15)
     else none
    else
     F75_u17 n a0 (s11 ++ r14)
   else none
theorem F75_u12_ok (n : Nat) (a0 : Delta) (s11 : ByteArray) : SimL Try.prog D (n + 8) (n + 7) p75c39 (W151 s11 a0) (W8 a0) (F75_u12 n a0 s11) (QB 0 (QT Try.prog D (n + 8) p75c45 (QF false pc75_r 0 F75_e))) := by
  unfold F75_u12
  refine SimL.succ (.seq (.rg (W151 s11 a0) (W8 a0) (.rd 1 [(39, qb true)] [] (.thenN (.seq (.ct (.skip (.thenN (.seq (.block (.sr 5 [(5, qj 1), (6, qp 6 0), (41, .agg (W108 a0)), (40, qj 1)] [(6, some (.cells (W108 a0))), (6, some (.cells [lj 0, ls be]))] (.seq (.st 3 [(44, qj 1), (43, .one (li .u8 a0.Mask)), (42, qp 1 1)] [] (.cl 45 true [[], []] 89 [43, 44] none (fun r13 => qb r13) [.one (li .u8 a0.Mask), qj 1] (F89_ok _ _ _) (fun r13 => ?_)))))))))))))))
  refine SimI.rd 1 [(46, qb (!(r13)))] [] (.thenN (.cd _ ?_ ?_))
  ·refine Sim.exit (.thenX (.blockX (.thenN (.region0 (.rd 2 [(38, qj 2), (60, qj 2)] [] (.loopN (.pr [1, 4, 37, 38] [1, 6] [] (W150 s11 a0) (W8 a0) ?_)))))))
   exact F75_u17_ok n a0 s11
  ·refine Sim.skip (.thenN (.st 3 [(49, qs a0.F.a1.Text), (48, qp 6 1), (47, qs s11)] [] (.cl 50 true [[]] 49 [49] none (fun r14 => qs r14) [qs a0.F.a1.Text] (F49_ok _ _) (fun r14 => ?_))))
   refine SimI.gp 51 (.bin .add 9 false false) [47, 50] none [] (fun hc => pr_addS _ _ _ s11 r14 hc) (.rd 1 [(4, qs (s11 ++ r14))] [] (.thenN (.sr 3 [(54, qb (a0.F.a1.Text.toList == be.toList)), (53, qs a0.F.a1.Text), (52, qp 6 1)] [] (.cd _ ?_ ?_))))
   ·refine Sim.region0 (.rn 3 [(57, qj a0.F.a1.N), (56, qp 6 0), (55, qs (s11 ++ r14))] [] (.cl 58 true [[]] 46 [57] none (fun r15 => qs r15) [qj a0.F.a1.N] (F46_ok _ _) (fun r15 => ?_)))
    refine SimI.gp 59 (.bin .add 9 false false) [55, 58] none [] (fun hc => pr_addS _ _ _ (s11 ++ r14) r15 hc) (.rd 1 [(4, qs ((s11 ++ r14) ++ r15))] [] (.blockN (.thenN (.region0 (.rd 2 [(38, qj 2), (60, qj 2)] [] (.loopN (.pr [1, 4, 37, 38] [1, 6] [] [(1, qp 1 0), (4, qs ((s11 ++ r14) ++ r15)), (37, .agg (A4_Field.cells a0.F)), (38, qj 2)] (W8 a0) ?_)))))))
    exact F75_u17_ok n a0 ((s11 ++ r14) ++ r15)
   ·refine Sim.skip (.blockN (.thenN (.region0 (.rd 2 [(38, qj 2), (60, qj 2)] [] (.loopN (.pr [1, 4, 37, 38] [1, 6] [] [(1, qp 1 0), (4, qs (s11 ++ r14)), (37, .agg (A4_Field.cells a0.F)), (38, qj 2)] (W8 a0) ?_))))))
    exact F75_u17_ok n a0 (s11 ++ r14)
def F75_j7 (n : Nat) (a0 : Delta) (s6 : ByteArray) : Option (ByteArray × Int) :=
  (F89 n a0.Mask 0).bind fun (r8 : Bool) =>
  if !(r8) then
   F75_u12 n a0 s6
  else
   (F49 n a0.F.a0.Text).bind fun (r9 : ByteArray) =>
   if s6.size + r9.size ≤ 9223372036854775807 then
    if a0.F.a0.Text.toList == ByteArray.empty.toList then
     (F46 n a0.F.a0.N).bind fun (r10 : ByteArray) =>
     if (s6 ++ r9).size + r10.size ≤ 9223372036854775807 then
      F75_u12 n a0 ((s6 ++ r9) ++ r10)
     else none
    else
     F75_u12 n a0 (s6 ++ r9)
   else none
theorem F75_j7_ok (n : Nat) (a0 : Delta) (s6 : ByteArray) : Sim Try.prog D (n + 8) p75c46 [(1, qp 1 0), (4, qs s6)] (W8 a0) (F75_j7 n a0 s6) (QF false pc75_r 0 F75_e) := by
  unfold F75_j7
  refine Sim.seq (.seq (.rs (.rd 3 [(38, qj 0), (37, .agg (A4_Field.cells a0.F)), (36, qp 1 4)] [] (.thenN (.block (.loop (.succ (.seq (.rg [(1, qp 1 0), (4, qs s6), (37, .agg (A4_Field.cells a0.F)), (38, qj 0)] (W8 a0) (.rd 1 [(39, qb true)] [] (.thenN (.seq (.ct (.skip (.thenN (.seq (.block (.sr 5 [(5, qj 0), (6, qp 6 0), (41, .agg (W109 a0)), (40, qj 0)] [(6, some (.cells (W109 a0))), (6, some (.cells [lj 0, ls be]))] (.seq (.st 3 [(44, qj 0), (43, .one (li .u8 a0.Mask)), (42, qp 1 1)] [] (.cl 45 true [[], []] 89 [43, 44] none (fun r8 => qb r8) [.one (li .u8 a0.Mask), qj 0] (F89_ok _ _ _) (fun r8 => ?_))))))))))))))))))))))
  refine SimI.rd 1 [(46, qb (!(r8)))] [] (.thenN (.cd _ ?_ ?_))
  ·refine Sim.exit (.thenX (.blockX (.thenN (.region0 (.rd 2 [(38, qj 1), (60, qj 1)] [] (.loopN (.pr [1, 4, 37, 38] [1, 6] [] (W151 s6 a0) (W8 a0) ?_)))))))
   exact F75_u12_ok n a0 s6
  ·refine Sim.skip (.thenN (.st 3 [(49, qs a0.F.a0.Text), (48, qp 6 1), (47, qs s6)] [] (.cl 50 true [[]] 49 [49] none (fun r9 => qs r9) [qs a0.F.a0.Text] (F49_ok _ _) (fun r9 => ?_))))
   refine SimI.gp 51 (.bin .add 9 false false) [47, 50] none [] (fun hc => pr_addS _ _ _ s6 r9 hc) (.rd 1 [(4, qs (s6 ++ r9))] [] (.thenN (.sr 3 [(54, qb (a0.F.a0.Text.toList == be.toList)), (53, qs a0.F.a0.Text), (52, qp 6 1)] [] (.cd _ ?_ ?_))))
   ·refine Sim.region0 (.rn 3 [(57, qj a0.F.a0.N), (56, qp 6 0), (55, qs (s6 ++ r9))] [] (.cl 58 true [[]] 46 [57] none (fun r10 => qs r10) [qj a0.F.a0.N] (F46_ok _ _) (fun r10 => ?_)))
    refine SimI.gp 59 (.bin .add 9 false false) [55, 58] none [] (fun hc => pr_addS _ _ _ (s6 ++ r9) r10 hc) (.rd 1 [(4, qs ((s6 ++ r9) ++ r10))] [] (.blockN (.thenN (.region0 (.rd 2 [(38, qj 1), (60, qj 1)] [] (.loopN (.pr [1, 4, 37, 38] [1, 6] [] [(1, qp 1 0), (4, qs ((s6 ++ r9) ++ r10)), (37, .agg (A4_Field.cells a0.F)), (38, qj 1)] (W8 a0) ?_)))))))
    exact F75_u12_ok n a0 ((s6 ++ r9) ++ r10)
   ·refine Sim.skip (.blockN (.thenN (.region0 (.rd 2 [(38, qj 1), (60, qj 1)] [] (.loopN (.pr [1, 4, 37, 38] [1, 6] [] [(1, qp 1 0), (4, qs (s6 ++ r9)), (37, .agg (A4_Field.cells a0.F)), (38, qj 1)] (W8 a0) ?_))))))
    exact F75_u12_ok n a0 (s6 ++ r9)
def F75 (n : Nat) (a0 : Delta) : Option (ByteArray × Int) :=
 (F88 n a0).bind fun (r1 : Bool) =>
 if !(r1) then
  some (ByteArray.empty, 11)
 else
  (F20 n (IntKind.wrap .u64 a0.ID)).bind fun (r2 : ByteArray) =>
  (F20 n (IntKind.wrap .u64 a0.Mask)).bind fun (r3 : ByteArray) =>
  if r2.size + r3.size ≤ 9223372036854775807 then
   if (bitsI .and .u8 a0.Mask 1) != 0 then
    (F20 n (IntKind.wrap .u64 a0.At.X)).bind fun (r4 : ByteArray) =>
    (F20 n (IntKind.wrap .u64 a0.At.Y)).bind fun (r5 : ByteArray) =>
    if r4.size + r5.size ≤ 9223372036854775807 then
     if (r2 ++ r3).size + (r4 ++ r5).size ≤ 9223372036854775807 then
      F75_j7 n a0 ((r2 ++ r3) ++ (r4 ++ r5))
     else none
    else none
   else
    F75_j7 n a0 (r2 ++ r3)
  else none
theorem F75_ok (n : Nat) (a0 : Delta) : ∀ r, F75 n a0 = some r → D 75 [.agg (Delta.cells a0)] [] = some (F75_e r) := by
 refine fn_to (D := D) (n := n + 8) (nt := 62) (rs := pc75_r) (c := p75c50) (L := [(0, .agg (Delta.cells a0))]) (M := []) (k := 0) rfl rfl rfl rfl rfl rfl rfl ?_
 unfold F75
 refine Sim.sr 3 W132 (W8 a0) (.seq (.st 1 [(7, .agg (Delta.cells a0))] [] (.cl 8 true [[]] 88 [7] none (fun r1 => qb r1) [.agg (Delta.cells a0)] (F88_ok _ _) (fun r1 => ?_))))
 refine SimI.rd 1 [(9, qb (!(r1)))] [] (.thenN (.cd _ ?_ ?_))
 ·exact Sim.sr 2 [(3, qj 11), (2, qs be)] [] (.ret (.thenR .fn))
 ·refine Sim.skip (.thenN (.st 3 [(12, .one (li .u64 (iw .u64 a0.ID))), (11, qj a0.ID), (10, qp 1 0)] [] (.cm 13 false [[]] 20 [12] none [(12, .imm)] (F20_ok _ _) (fun r2 => ?_))))
  refine SimI.rn 3 [(16, .one (li .u64 (iw .u64 a0.Mask))), (15, .one (li .u8 a0.Mask)), (14, qp 1 1)] [] (.cm 17 false [[]] 20 [16] none [(16, .imm)] (F20_ok _ _) (fun r3 => ?_))
  refine SimI.gp 18 (.bin .add 9 false false) [13, 17] none [(13, .imm), (17, .imm)] (fun hc => pr_addS _ _ _ r2 r3 hc) (.rd 1 [(4, qs (r2 ++ r3))] [] (.thenN (.seq (.sr 4 [(22, qb ((bitsI .and .u8 a0.Mask 1) != 0)), (21, .one (li .u8 (bitsI .and .u8 a0.Mask 1))), (20, .one (li .u8 a0.Mask)), (19, qp 1 1)] [] (.cd _ ?_ ?_)))))
  ·refine Sim.region0 (.rn 5 [(27, .one (li .u64 (iw .u64 a0.At.X))), (26, qj a0.At.X), (25, qp 1 2), (24, qp 1 2), (23, qs (r2 ++ r3))] [] (.cm 28 false [[]] 20 [27] none [(27, .imm)] (F20_ok _ _) (fun r4 => ?_)))
   refine SimI.rn 4 [(32, .one (li .u64 (iw .u64 a0.At.Y))), (31, qj a0.At.Y), (30, qp 1 3), (29, qp 1 2)] [] (.cm 33 false [[]] 20 [32] none [(32, .imm)] (F20_ok _ _) (fun r5 => ?_))
   refine SimI.gp 34 (.bin .add 9 false false) [28, 33] none [(28, .imm), (33, .imm)] (fun hc => pr_addS _ _ _ r4 r5 hc) (.gp 35 (.bin .add 9 false false) [23, 34] none [(23, .imm), (34, .imm)] (fun hc => pr_addS _ _ _ (r2 ++ r3) (r4 ++ r5) hc) (.rd 1 [(4, qs ((r2 ++ r3) ++ (r4 ++ r5)))] [] (.thenN (.pr [1, 4] [1] [] [(1, qp 1 0), (4, qs ((r2 ++ r3) ++ (r4 ++ r5)))] (W8 a0) ?_))))
   exact F75_j7_ok n a0 ((r2 ++ r3) ++ (r4 ++ r5))
  ·refine Sim.skip (.thenN (.pr [1, 4] [1] [] [(1, qp 1 0), (4, qs (r2 ++ r3))] (W8 a0) ?_))
   exact F75_j7_ok n a0 (r2 ++ r3)
def F44_e : (ByteArray × Int) → PV × List Ob := fun r => (.tup [.one (ls r.1), .one (li .i64 r.2)], [])
def F44 (n : Nat) (a0 : Thing) : Option (ByteArray × Int) :=
 (F67 n a0).bind fun (r1 : Bool) =>
 if !(r1) then
  some (ByteArray.empty, 11)
 else
  (F75 n (Delta.mk a0.ID 31 a0.At a0.F)).bind fun (r2 : (ByteArray × Int)) =>
  some (r2.1, r2.2)
theorem F44_ok (n : Nat) (a0 : Thing) : ∀ r, F44 n a0 = some r → D 44 [.agg (Thing.cells a0)] [] = some (F44_e r) := by
 refine fn_to (D := D) (n := n + 8) (nt := 17) (rs := pc44_r) (c := p44c13) (L := [(0, .agg (Thing.cells a0))]) (M := []) (k := 0) rfl rfl rfl rfl rfl rfl rfl ?_
 unfold F44
 refine Sim.sr 3 W132 (W84 a0) (.seq (.st 1 [(4, .agg (Thing.cells a0))] [] (.cl 5 true [[]] 67 [4] none (fun r1 => qb r1) [.agg (Thing.cells a0)] (F67_ok _ _) (fun r1 => ?_))))
 refine SimI.rd 1 [(6, qb (!(r1)))] [] (.thenN (.cd _ ?_ ?_))
 ·exact Sim.sr 2 [(3, qj 11), (2, qs be)] [] (.ret (.thenR .fn))
 ·refine Sim.skip (.thenN (.st 7 [(13, .agg (W88 a0)), (12, .agg (A4_Field.cells a0.F)), (11, qp 1 3), (10, .agg [lj a0.At.X, lj a0.At.Y]), (9, qp 1 1), (8, qj a0.ID), (7, qp 1 0)] [] (.cl 14 true [[]] 75 [13] none (fun r2 => .tup [qs r2.1, qj r2.2]) [.agg (W88 a0)] (F75_ok _ _) (fun r2 => ?_))))
  exact SimI.rd 4 [(3, qj r2.2), (2, qs r2.1), (16, qj r2.2), (15, qs r2.1)] [] (.thenN (.ret .fn))
def F18_e : (ByteArray × Int) → PV × List Ob := fun r => (.tup [.one (ls r.1), .one (li .i64 r.2)], [])
def F18_l9 (n : Nat) (a0 : (List Thing)) : Nat → Int → (List Int) → Option (ByteArray × Int)
 | 0, _, _ => none
 | m + 1, i7, l8 =>
  if decide (i7 < ((a0).length : Int)) then
   (ix a0 i7).bind fun (x10 : Thing) =>
   (F44 n x10).bind fun (r11 : (ByteArray × Int)) =>
   if r11.2 != 0 then
    some (ByteArray.empty, 11)
   else
    if decide ((0 : Int) < i7) then
     (ix a0 (IntKind.wrap .i64 (i7 - 1))).bind fun (x12 : Thing) =>
     if decide (x10.ID ≤ x12.ID) then
      some (ByteArray.empty, 11)
     else
      (bldAdd l8 r11.1).bind fun (l13 : (List Int)) =>
      (F18_l9 n a0 m) (IntKind.wrap .i64 (i7 + 1)) l13
    else
     (bldAdd l8 r11.1).bind fun (l14 : (List Int)) =>
     (F18_l9 n a0 m) (IntKind.wrap .i64 (i7 + 1)) l14
  else
   (bldStr l8).bind fun (s15 : ByteArray) =>
   some (s15, 0)
theorem F18_l9_ok (n : Nat) (a0 : (List Thing)) : ∀ (m : Nat) (i7 : Int) (l8 : (List Int)), SimL Try.prog D (n + 8) m p18c33 [(0, .one (vw Thing.cod a0)), (4, qp 4 0), (17, .one (vw Thing.cod a0)), (18, qj ((a0).length : Int)), (19, qj i7)] (W20 l8) (F18_l9 n a0 m i7 l8) (QB 0 (QT Try.prog D (n + 8) p18c39 (QF false pc18_r 0 F18_e))) := by
 intro m_l9
 induction m_l9 with
 | zero => intro i7 l8; exact SimL.zero'  rfl
 | succ m_l9 ih_l9 =>
  intro i7 l8
  refine SimL.succ ?_
  unfold F18_l9
  refine Sim.seq (.rg [(0, .one (vw Thing.cod a0)), (4, qp 4 0), (17, .one (vw Thing.cod a0)), (18, qj ((a0).length : Int)), (19, qj i7)] (W20 l8) (.rd 1 [(20, qb (decide (i7 < ((a0).length : Int))))] [] (.thenN (.seq (.cd _ ?_ ?_)))))
  ·refine Sim.skip (.thenN (.seq (.block (.st 1 [(21, qj i7)] [] (.bn ⟨some 22, .iaddrS 11 17 19, none, []⟩ (fun x10 => [(22, .one (.eptr (Thing.cod.enc x10) 0))]) (fun x10 => []) (fun x10 hr => pe (ei (c := Thing.cod) (k := .i64) hr)) (fun x10 => ?_))))))
   refine SimI.rd 4 [(5, qj i7), (6, qp 6 0), (23, .agg (Thing.cells x10))] [(6, some (.cells (Thing.cells x10))), (6, some (.cells W23))] (.thenN (.st 1 [(25, .agg (Thing.cells x10))] [] (.cl 26 true [[]] 44 [25] none (fun r11 => .tup [qs r11.1, qj r11.2]) [.agg (Thing.cells x10)] (F44_ok _ _) (fun r11 => ?_))))
   refine SimI.rd 5 [(8, qj r11.2), (7, qs r11.1), (28, qj r11.2), (27, qs r11.1), (24, .tup [qs r11.1, qj r11.2])] [] (.thenN (.seq (.st 3 (rp [31, 30] (qb (r11.2 != 0)) ++ [(29, qj r11.2)]) [] (.sp 31 _ ?_ ?_))))
   ·exact SimI.rd 14 ([(45, qb true)] ++ rp [44, 43, 42, 41, 40, 39, 38, 37, 36, 35, 34, 33, 32] tz) [] (.thenN (.ct (.sr 2 [(3, qj 11), (2, qs be)] [] (.ret (.thenR (.blockR (.thenR (.loopR (.blockR (.thenR .fn))))))))))
   ·refine SimI.rn 3 (rp [34, 33] (qb (decide ((0 : Int) < i7))) ++ [(32, qj i7)]) [] (.sp 34 _ ?_ ?_)
    ·refine SimI.rn 5 [(39, qj (iw .i64 (i7 - 1))), (38, qj i7), (37, .one (vw Thing.cod a0)), (36, qj x10.ID), (35, qp 6 0)] [] (.bn ⟨some 40, .iaddrS 11 37 39, some (34, true), [(37, .imm), (39, .imm)]⟩ (fun x12 => [(40, .one (.eptr (Thing.cod.enc x12) 0))]) (fun x12 => []) (fun x12 hr => pe (ei (c := Thing.cod) (k := .i64) hr)) (fun x12 => ?_))
     refine SimI.rd 5 (rp [45, 44, 43] (qb (decide (x10.ID ≤ x12.ID))) ++ [(42, qj x12.ID), (41, .one (.eptr (Thing.cod.enc x12) 0))]) [] (.thenN (.cd _ ?_ ?_))
     ·exact Sim.sr 2 [(3, qj 11), (2, qs be)] [] (.ret (.thenR (.blockR (.thenR (.loopR (.blockR (.thenR .fn)))))))
     ·refine Sim.skip (.thenN (.region0 (.rn 1 [(46, qs r11.1)] [] (.bn ⟨some 47, .gcall false false W61 [[(1, 1)], []] 19 [4, 46], none, []⟩ (fun l13 => [(47, .tup [qj (r11.1.size : Int), .one (.val (.nilIface))])]) (fun l13 => (W54 l13)) (fun l13 hr => pe (gq (ks := [4, 400032]) (ARGS := [qp 4 0, qs r11.1]) (D_add (a := .ptr 1000000 0) (by kernel_rfl) (l := l8) (s := r11.1) l13 hr))) (fun l13 => ?_)))))
      refine SimI.dn (.blockN (.thenN (.region0 (.rd 2 (rp [19, 48] (qj (iw .i64 (i7 + 1)))) [] (.loopN (.pr [0, 4, 17, 18, 19] [4, 6, 400032] [] (W146 a0 i7) (W20 l13) ?_))))))
      exact ih_l9 (iw .i64 (i7 + 1)) l13
    ·refine SimI.rd 11 ([(45, qb false), (44, qb false)] ++ rp [43, 42, 41, 40, 39, 38, 37, 36, 35] tz) [] (.thenN (.cf (.skip (.thenN (.region0 (.rn 1 [(46, qs r11.1)] [] (.bn ⟨some 47, .gcall false false W61 [[(1, 1)], []] 19 [4, 46], none, []⟩ (fun l14 => [(47, .tup [qj (r11.1.size : Int), .one (.val (.nilIface))])]) (fun l14 => (W54 l14)) (fun l14 hr => pe (gq (ks := [4, 400032]) (ARGS := [qp 4 0, qs r11.1]) (D_add (a := .ptr 1000000 0) (by kernel_rfl) (l := l8) (s := r11.1) l14 hr))) (fun l14 => ?_))))))))
     refine SimI.dn (.blockN (.thenN (.region0 (.rd 2 (rp [19, 48] (qj (iw .i64 (i7 + 1)))) [] (.loopN (.pr [0, 4, 17, 18, 19] [4, 6, 400032] [] (W146 a0 i7) (W20 l14) ?_))))))
     exact ih_l9 (iw .i64 (i7 + 1)) l14
  ·refine Sim.exit (.thenX (.loopX (.blockX (.thenN (.seq (.region0 (.bn ⟨some 49, .gcall false false W61 [[(1, 1)]] 24 [4], none, []⟩ (fun s15 => [(49, qs s15)]) (fun s15 => [(4, some (.tcells 64 [.ptr 4 0, .osl 400032 (0 + 0) 0 (l8).length])), (400032, some (.arr 5 (codI .u8).sz (0 + 1) (([] : List Int)).length (getOf (codI .u8) ([] : List Int))))]) (fun s15 hr => pe (gq (ks := [4, 400032]) (ARGS := [qp 4 0]) (D_str (a := .ptr 1000000 0) (by kernel_rfl) (l := l8) s15 hr))) (fun s15 => ?_))))))))
   exact SimI.rd 2 [(3, qj 0), (2, qs s15)] [] (.thenN (.ret .fn))
def F18 (n : Nat) (a0 : (List Thing)) : Option (ByteArray × Int) :=
 if decide ((200 : Int) < ((a0).length : Int)) then
  some (ByteArray.empty, 13)
 else
  (F20 n (IntKind.wrap .u64 ((a0).length : Int))).bind fun (r1 : ByteArray) =>
  (bldAdd ([] : List Int) r1).bind fun (l2 : (List Int)) =>
  F18_l9 n a0 (n + 8) 0 l2
theorem F18_ok (n : Nat) (a0 : (List Thing)) : ∀ r, F18 n a0 = some r → D 18 [.one (vw Thing.cod a0)] [] = some (F18_e r) := by
 refine fn_to (D := D) (n := n + 8) (nt := 50) (rs := pc18_r) (c := p18c44) (L := [(0, .one (vw Thing.cod a0))]) (M := []) (k := 0) rfl rfl rfl rfl rfl rfl rfl ?_
 unfold F18
 refine Sim.sr 2 [(3, qj 0), (2, qs be)] [] (.seq (.sr 3 [(11, qb (decide ((200 : Int) < ((a0).length : Int)))), (10, qj ((a0).length : Int)), (9, .one (vw Thing.cod a0))] [] (.cd _ ?_ ?_)))
 ·exact Sim.sr 2 [(3, qj 13), (2, qs be)] [] (.ret (.thenR .fn))
 ·refine Sim.skip (.thenN (.sr 1 [(4, qp 4 0)] [(4, some (.tcells 64 [.val (.pointer none), .osl 400032 0 0 (([] : List Int)).length])), (400032, some (.arr 5 (codI .u8).sz 0 (([] : List Int)).length (getOf (codI .u8) ([] : List Int))))] (.st 3 [(14, .one (li .u64 (iw .u64 ((a0).length : Int)))), (13, qj ((a0).length : Int)), (12, .one (vw Thing.cod a0))] [] (.cl 15 true [[]] 20 [14] none (fun r1 => qs r1) [.one (li .u64 (iw .u64 ((a0).length : Int)))] (F20_ok _ _) (fun r1 => ?_)))))
  refine SimI.bn ⟨some 16, .gcall false false W61 [[(1, 1)], []] 19 [4, 15], none, []⟩ (fun l2 => [(16, .tup [qj (r1.size : Int), .one (.val (.nilIface))])]) (fun l2 => (W54 l2)) (fun l2 hr => pe (gq (ks := [4, 400032]) (ARGS := [qp 4 0, qs r1]) (D_add (a := .val (.pointer none)) (by kernel_rfl) (l := ([] : List Int)) (s := r1) l2 hr))) (fun l2 => ?_)
  refine SimI.dn (.thenN (.seq (.sr 3 [(19, qj 0), (18, qj ((a0).length : Int)), (17, .one (vw Thing.cod a0))] [] (.block (.loop (.pr [0, 4, 17, 18, 19] [4, 6, 400032] [] [(0, .one (vw Thing.cod a0)), (4, qp 4 0), (17, .one (vw Thing.cod a0)), (18, qj ((a0).length : Int)), (19, qj 0)] (W20 l2) ?_))))))
  exact F18_l9_ok n a0 (n + 8) 0 l2
def F47s0_e (a0 : Command) : Nat → PV × List Ob := fun r =>
  if r = 0 then (.one (.view 1 0 fun _ => []), [.cells (Command.cells a0)]) else
  if r = 1 then (.one (.csl 1000001 1 0 2), [.cells (Command.cells a0), .cells [.ptr 1000000 4, .ptr 1000000 5]]) else
  if r = 2 then (.one (.csl 1000001 1 0 3), [.cells (Command.cells a0), .cells [.ptr 1000000 1, .ptr 1000000 4, .ptr 1000000 5]]) else
  if r = 3 then (.one (.csl 1000001 1 0 2), [.cells (Command.cells a0), .cells [.ptr 1000000 1, .ptr 1000000 2]]) else
  if r = 4 then (.one (.csl 1000001 1 0 1), [.cells (Command.cells a0), .cells [.ptr 1000000 1]]) else
  if r = 5 then (.one (.csl 1000001 1 0 2), [.cells (Command.cells a0), .cells [.ptr 1000000 2, .ptr 1000000 3]]) else
  (.one (.csl 1000001 1 0 4), [.cells (Command.cells a0), .cells [.ptr 1000000 18, .ptr 1000000 19, .ptr 1000000 20, .ptr 1000000 21]])
theorem F47s0_e_0 (a0 : Command) (r : Nat) (h : r = 0) : F47s0_e a0 r = (.one (.view 1 0 fun _ => []), [.cells (Command.cells a0)]) := by
 unfold F47s0_e; simp only [h]; rfl
theorem F47s0_e_1 (a0 : Command) (r : Nat) (h : r = 1) : F47s0_e a0 r = (.one (.csl 1000001 1 0 2), [.cells (Command.cells a0), .cells [.ptr 1000000 4, .ptr 1000000 5]]) := by
 unfold F47s0_e; simp only [h]; rfl
theorem F47s0_e_2 (a0 : Command) (r : Nat) (h : r = 2) : F47s0_e a0 r = (.one (.csl 1000001 1 0 3), [.cells (Command.cells a0), .cells [.ptr 1000000 1, .ptr 1000000 4, .ptr 1000000 5]]) := by
 unfold F47s0_e; simp only [h]; rfl
theorem F47s0_e_3 (a0 : Command) (r : Nat) (h : r = 3) : F47s0_e a0 r = (.one (.csl 1000001 1 0 2), [.cells (Command.cells a0), .cells [.ptr 1000000 1, .ptr 1000000 2]]) := by
 unfold F47s0_e; simp only [h]; rfl
theorem F47s0_e_4 (a0 : Command) (r : Nat) (h : r = 4) : F47s0_e a0 r = (.one (.csl 1000001 1 0 1), [.cells (Command.cells a0), .cells [.ptr 1000000 1]]) := by
 unfold F47s0_e; simp only [h]; rfl
theorem F47s0_e_5 (a0 : Command) (r : Nat) (h : r = 5) : F47s0_e a0 r = (.one (.csl 1000001 1 0 2), [.cells (Command.cells a0), .cells [.ptr 1000000 2, .ptr 1000000 3]]) := by
 unfold F47s0_e; simp only [h]; rfl
theorem F47s0_e_6 (a0 : Command) (r : Nat) (h : r = 6) : F47s0_e a0 r = (.one (.csl 1000001 1 0 4), [.cells (Command.cells a0), .cells [.ptr 1000000 18, .ptr 1000000 19, .ptr 1000000 20, .ptr 1000000 21]]) := by
 unfold F47s0_e; simp only [h]; rfl
def F47s0_j1 (n : Nat) : Option Nat :=
  some 6
theorem F47s0_j1_ok (n : Nat) (a0 : Command) : Sim Try.prog D (n + 8) p47c30 [(0, qp 1000000 0)] (W112 a0) (F47s0_j1 n) (QB 0 (QT Try.prog D (n + 8) p47c48 (QF false pc47_r 1 (F47s0_e a0)))) := by
  unfold F47s0_j1
  exact Sim.seq (.rs (.rd 18 (rp [2, 75] (.one (.csl 75 1 0 4)) ++ [(74, qp 1000000 21), (73, qp 1000000 18), (72, qp 1000000 0), (71, qp 1000000 0), (70, qp 1000000 20), (69, qp 1000000 18), (68, qp 1000000 0), (67, qp 1000000 0), (66, qp 1000000 19), (65, qp 1000000 18), (64, qp 1000000 0), (63, qp 1000000 0), (62, qp 1000000 18), (61, qp 1000000 18), (60, qp 1000000 0), (59, qp 1000000 0)]) [(75, some (.cells W53))] (.thenN (.ret (.blockR (.thenR .fn))))))
def F47s0 (n : Nat) (a0 : Command) : Option Nat :=
 if a0.Kind == 1 then
  some 1
 else
  if a0.Kind == 2 then
   some 2
  else
   if a0.Kind == 3 then
    some 3
   else
    if a0.Kind == 4 then
     some 4
    else
     if a0.Kind == 5 then
      some 5
     else
      if a0.Kind == 6 then
       if a0.Kind == 6 then
        F47s0_j1 n
       else
        some 0
      else
       if a0.Kind == 7 then
        F47s0_j1 n
       else
        some 0
theorem F47s0_ok (n : Nat) (a0 : Command) : ∀ r, F47s0 n a0 = some r → D 47 [.one (.ptr 1000000 0)] [.cells (Command.cells a0)] = some ((F47s0_e a0) r) := by
 refine fn_to (D := D) (n := n + 8) (nt := 76) (rs := pc47_r) (c := p47c50) (L := [(0, qp 1000000 0)]) (M := (W112 a0)) (k := 1) rfl rfl rfl rfl rfl rfl rfl ?_
 unfold F47s0
 refine Sim.sr 1 [(2, .one (lnil))] [] (.seq (.sr 4 ([(6, qj a0.Kind)] ++ rp [5, 4, 3] (qp 1000000 0)) [] (.block (.sr 2 (rp [7, 8] (qb (a0.Kind == 1))) [] (.cd _ ?_ ?_)))))
 ·exact Sim.sr 10 (rp [2, 17] (.one (.csl 17 1 0 2)) ++ [(16, qp 1000000 5), (15, qp 1000000 4), (14, qp 1000000 0), (13, qp 1000000 0), (12, qp 1000000 4), (11, qp 1000000 4), (10, qp 1000000 0), (9, qp 1000000 0)]) [(17, some (.cells W114))] (.ret (.blockR (.thenR .fn)))
 ·refine Sim.sr 2 (rp [18, 19] (qb (a0.Kind == 2))) [] (.cd _ ?_ ?_)
  ·exact Sim.sr 13 (rp [2, 31] (.one (.csl 31 1 0 3)) ++ [(30, qp 1000000 5), (29, qp 1000000 4), (28, qp 1000000 0), (27, qp 1000000 0), (26, qp 1000000 4), (25, qp 1000000 4), (24, qp 1000000 0), (23, qp 1000000 0), (22, qp 1000000 1), (21, qp 1000000 0), (20, qp 1000000 0)]) [(31, some (.cells W73))] (.ret (.blockR (.thenR .fn)))
  ·refine Sim.sr 2 (rp [32, 33] (qb (a0.Kind == 3))) [] (.cd _ ?_ ?_)
   ·exact Sim.sr 8 (rp [2, 40] (.one (.csl 40 1 0 2)) ++ [(39, qp 1000000 2), (38, qp 1000000 0), (37, qp 1000000 0), (36, qp 1000000 1), (35, qp 1000000 0), (34, qp 1000000 0)]) [(40, some (.cells W115))] (.ret (.blockR (.thenR .fn)))
   ·refine Sim.sr 2 (rp [41, 42] (qb (a0.Kind == 4))) [] (.cd _ ?_ ?_)
    ·exact Sim.sr 5 (rp [2, 46] (.one (.csl 46 1 0 1)) ++ [(45, qp 1000000 1), (44, qp 1000000 0), (43, qp 1000000 0)]) [(46, some (.cells [.ptr 1000000 1]))] (.ret (.blockR (.thenR .fn)))
    ·refine Sim.sr 2 (rp [47, 48] (qb (a0.Kind == 5))) [] (.cd _ ?_ ?_)
     ·exact Sim.sr 8 (rp [2, 55] (.one (.csl 55 1 0 2)) ++ [(54, qp 1000000 3), (53, qp 1000000 0), (52, qp 1000000 0), (51, qp 1000000 2), (50, qp 1000000 0), (49, qp 1000000 0)]) [(55, some (.cells W116))] (.ret (.blockR (.thenR .fn)))
     ·refine Sim.seq (.sr 2 (rp [56, 57] (qb (a0.Kind == 6))) [] (.cd _ ?_ ?_))
      ·refine Sim.skip (.thenN (.cd _ ?_ ?_))
       ·refine Sim.pr [0] [1000000] [] [(0, qp 1000000 0)] (W112 a0) ?_
        exact F47s0_j1_ok n a0
       ·exact Sim.skip (.blockN (.thenN (.sr 1 [(2, .one (lnil))] [] (.ret .fn))))
      ·refine Sim.region0 (.rd 2 (rp [56, 58] (qb (a0.Kind == 7))) [] (.thenN (.cd _ ?_ ?_)))
       ·refine Sim.pr [0] [1000000] [] [(0, qp 1000000 0)] (W112 a0) ?_
        exact F47s0_j1_ok n a0
       ·exact Sim.skip (.blockN (.thenN (.sr 1 [(2, .one (lnil))] [] (.ret .fn))))
def F48s0_e (a0 : Command) : Nat → PV × List Ob := fun r =>
  if r = 0 then (.one (.view 1 0 fun _ => []), [.cells (Command.cells a0)]) else
  if r = 1 then (.one (.csl 1000001 1 0 4), [.cells (Command.cells a0), .cells [.ptr 1000000 6, .ptr 1000000 8, .ptr 1000000 10, .ptr 1000000 12]]) else
  (.one (.csl 1000001 1 0 1), [.cells (Command.cells a0), .cells [.ptr 1000000 14]])
theorem F48s0_e_0 (a0 : Command) (r : Nat) (h : r = 0) : F48s0_e a0 r = (.one (.view 1 0 fun _ => []), [.cells (Command.cells a0)]) := by
 unfold F48s0_e; simp only [h]; rfl
theorem F48s0_e_1 (a0 : Command) (r : Nat) (h : r = 1) : F48s0_e a0 r = (.one (.csl 1000001 1 0 4), [.cells (Command.cells a0), .cells [.ptr 1000000 6, .ptr 1000000 8, .ptr 1000000 10, .ptr 1000000 12]]) := by
 unfold F48s0_e; simp only [h]; rfl
theorem F48s0_e_2 (a0 : Command) (r : Nat) (h : r = 2) : F48s0_e a0 r = (.one (.csl 1000001 1 0 1), [.cells (Command.cells a0), .cells [.ptr 1000000 14]]) := by
 unfold F48s0_e; simp only [h]; rfl
def F48s0 (n : Nat) (a0 : Command) : Option Nat :=
 if a0.Kind == 1 then
  some 1
 else
  if a0.Kind == 3 then
   some 2
  else
   some 0
theorem F48s0_ok (n : Nat) (a0 : Command) : ∀ r, F48s0 n a0 = some r → D 48 [.one (.ptr 1000000 0)] [.cells (Command.cells a0)] = some ((F48s0_e a0) r) := by
 refine fn_to (D := D) (n := n + 8) (nt := 32) (rs := pc48_r) (c := p48c22) (L := [(0, qp 1000000 0)]) (M := (W112 a0)) (k := 1) rfl rfl rfl rfl rfl rfl rfl ?_
 unfold F48s0
 refine Sim.sr 1 [(2, .one (lnil))] [] (.seq (.sr 4 ([(6, qj a0.Kind)] ++ rp [5, 4, 3] (qp 1000000 0)) [] (.block (.sr 2 (rp [7, 8] (qb (a0.Kind == 1))) [] (.cd _ ?_ ?_)))))
 ·exact Sim.sr 18 (rp [2, 25] (.one (.csl 25 1 0 4)) ++ [(24, qp 1000000 12), (23, qp 1000000 6), (22, qp 1000000 0), (21, qp 1000000 0), (20, qp 1000000 10), (19, qp 1000000 6), (18, qp 1000000 0), (17, qp 1000000 0), (16, qp 1000000 8), (15, qp 1000000 6), (14, qp 1000000 0), (13, qp 1000000 0), (12, qp 1000000 6), (11, qp 1000000 6), (10, qp 1000000 0), (9, qp 1000000 0)]) [(25, some (.cells W55))] (.ret (.blockR (.thenR .fn)))
 ·refine Sim.sr 2 (rp [26, 27] (qb (a0.Kind == 3))) [] (.cd _ ?_ ?_)
  ·exact Sim.sr 5 (rp [2, 31] (.one (.csl 31 1 0 1)) ++ [(30, qp 1000000 14), (29, qp 1000000 0), (28, qp 1000000 0)]) [(31, some (.cells [.ptr 1000000 14]))] (.ret (.blockR (.thenR .fn)))
  ·exact Sim.skip (.blockN (.thenN (.sr 1 [(2, .one (lnil))] [] (.ret .fn))))
def F21_e : (ByteArray × Int) → PV × List Ob := fun r => (.tup [.one (ls r.1), .one (li .i64 r.2)], [])
def F21_j21 (n : Nat) (a0 : Command) (s20 : ByteArray) : Option (ByteArray × Int) :=
  (F48s0 n a0).bind fun (r22 : Nat) =>
  if r22 = 0 then
   some (s20, 0)
  else
   if r22 = 1 then
    (F49 n a0.F.a0.Text).bind fun (r25 : ByteArray) =>
    (F46 n a0.F.a0.N).bind fun (r26 : ByteArray) =>
    if r25.size + r26.size ≤ 9223372036854775807 then
     if s20.size + (r25 ++ r26).size ≤ 9223372036854775807 then
      (F49 n a0.F.a1.Text).bind fun (r27 : ByteArray) =>
      (F46 n a0.F.a1.N).bind fun (r28 : ByteArray) =>
      if r27.size + r28.size ≤ 9223372036854775807 then
       if (s20 ++ (r25 ++ r26)).size + (r27 ++ r28).size ≤ 9223372036854775807 then
        (F49 n a0.F.a2.Text).bind fun (r29 : ByteArray) =>
        (F46 n a0.F.a2.N).bind fun (r30 : ByteArray) =>
        if r29.size + r30.size ≤ 9223372036854775807 then
         if ((s20 ++ (r25 ++ r26)) ++ (r27 ++ r28)).size + (r29 ++ r30).size ≤ 9223372036854775807 then
          (F49 n a0.F.a3.Text).bind fun (r31 : ByteArray) =>
          (F46 n a0.F.a3.N).bind fun (r32 : ByteArray) =>
          if r31.size + r32.size ≤ 9223372036854775807 then
           if (((s20 ++ (r25 ++ r26)) ++ (r27 ++ r28)) ++ (r29 ++ r30)).size + (r31 ++ r32).size ≤ 9223372036854775807 then
            some ((((s20 ++ (r25 ++ r26)) ++ (r27 ++ r28)) ++ (r29 ++ r30)) ++ (r31 ++ r32), 0)
           else none
          else none
         else none
        else none
       else none
      else none
     else none
    else none
   else
    if r22 = 2 then
     (F49 n a0.Value.Text).bind fun (r23 : ByteArray) =>
     (F46 n a0.Value.N).bind fun (r24 : ByteArray) =>
     if r23.size + r24.size ≤ 9223372036854775807 then
      if s20.size + (r23 ++ r24).size ≤ 9223372036854775807 then
       some (s20 ++ (r23 ++ r24), 0)
      else none
     else none
    else
     none
theorem F21_j21_ok (n : Nat) (a0 : Command) (s20 : ByteArray) : Sim Try.prog D (n + 8) p21c45 [(1, qp 1 0), (4, qs s20)] (W7 a0) (F21_j21 n a0 s20) (QF false pc21_r 0 F21_e) := by
  unfold F21_j21
  refine Sim.seq (.seq (.rs (.open (og := F48s0 n a0) (fun r22 hr22 => ?_))))
  refine SimI.ite (c := r22 = 0) (fun cr22 => ?_) (fun _ => ?_)
  ·exact SimI.se ⟨some 36, .gcall false false W13 [[]] 48 [1], none, []⟩ [(36, .one (.view 1 0 fun _ => []))] (W7 a0) (pe (gq (ks := [1]) (ARGS := [qp 1 0]) ((F48s0_ok _ _ _ hr22).trans (congrArg some (F48s0_e_0 a0 r22 cr22))))) (.rd 2 [(38, qj 0), (37, qj 0)] [] (.thenN (.block (.loop (.succ (.seq (.rg [(4, qs s20), (36, .one (.view 1 0 fun _ => [])), (37, qj 0), (38, qj 0)] [] (.rd 1 [(39, qb false)] [] (.thenN (.seq (.cf (.exit (.thenX (.loopX (.blockX (.thenN (.sr 3 [(3, qj 0), (2, qs s20), (56, qs s20)] [] (.ret .fn))))))))))))))))))
  ·refine SimI.ite (c := r22 = 1) (fun cr22 => ?_) (fun _ => ?_)
   ·refine SimI.se ⟨some 36, .gcall false false W13 [[]] 48 [1], none, []⟩ [(36, .one (.csl 300000 1 0 4))] (W17 a0) (pe (eff_gcall (ks := [1]) (rks := []) (new := [300000]) (ARGS := [qp 1 0]) (args1 := [qp 1 0]) (args2 := [qp 1000000 0]) (os := [.cells (Command.cells a0)]) (os' := [.cells (Command.cells a0), .cells W55]) (os1 := [.cells (Command.cells a0), .cells W55]) (res := .one (.csl 1000001 1 0 4)) (res1 := .one (.csl 1000001 1 0 4)) (r := .one (.csl 300000 1 0 4)) (N := (W17 a0)) (by kernel_rfl) (readA_ow (readA_keep (by kernel_rfl) (readA_nil))) (by kernel_rfl) (by kernel_rfl) (by kernel_rfl) (by kernel_rfl) ((F48s0_ok _ _ _ hr22).trans (congrArg some (F48s0_e_1 a0 r22 cr22))) (by kernel_rfl) (by kernel_rfl) (by kernel_rfl) rfl (by kernel_rfl) (by kernel_rfl) (by kernel_rfl))) (.rd 2 [(38, qj 0), (37, qj 4)] [] (.thenN (.block (.loop (.succ (.seq (.rg [(4, qs s20), (36, .one (.csl 300000 1 0 4)), (37, qj 4), (38, qj 0)] (W17 a0) (.rd 1 [(39, qb true)] [] (.thenN (.seq (.ct (.skip (.thenN (.seq (.block (.sr 3 [(8, qp 1 6), (41, qp 1 6), (40, qp 300000 0)] [] (.region0 (.rn 5 [(46, qs a0.F.a0.Text), (45, qp 1 7), (44, qp 1 6), (43, qp 1 6), (42, qs s20)] [] (.cm 47 false [[]] 49 [46] none [(46, .imm)] (F49_ok _ _) (fun r25 => ?_))))))))))))))))))))
    refine SimI.rn 4 ([(51, qj a0.F.a0.N)] ++ rp [50, 49, 48] (qp 1 6)) [] (.cm 52 false [[]] 46 [51] none [(51, .imm)] (F46_ok _ _) (fun r26 => ?_))
    refine SimI.gp 53 (.bin .add 9 false false) [47, 52] none [(47, .imm), (52, .imm)] (fun hc => pr_addS _ _ _ r25 r26 hc) (.gp 54 (.bin .add 9 false false) [42, 53] none [(42, .imm), (53, .imm)] (fun hc => pr_addS _ _ _ s20 (r25 ++ r26) hc) (.rd 1 [(4, qs (s20 ++ (r25 ++ r26)))] [] (.blockN (.thenN (.region0 (.rd 2 [(38, qj 1), (55, qj 1)] [] (.loopN (.succ (.seq (.rg [(4, qs (s20 ++ (r25 ++ r26))), (36, .one (.csl 300000 1 0 4)), (37, qj 4), (38, qj 1)] (W17 a0) (.rd 1 [(39, qb true)] [] (.thenN (.seq (.ct (.skip (.thenN (.seq (.block (.sr 3 [(8, qp 1 8), (41, qp 1 8), (40, qp 300000 1)] [] (.region0 (.rn 5 [(46, qs a0.F.a1.Text), (45, qp 1 9), (44, qp 1 8), (43, qp 1 8), (42, qs (s20 ++ (r25 ++ r26)))] [] (.cm 47 false [[]] 49 [46] none [(46, .imm)] (F49_ok _ _) (fun r27 => ?_)))))))))))))))))))))))
    refine SimI.rn 4 ([(51, qj a0.F.a1.N)] ++ rp [50, 49, 48] (qp 1 8)) [] (.cm 52 false [[]] 46 [51] none [(51, .imm)] (F46_ok _ _) (fun r28 => ?_))
    refine SimI.gp 53 (.bin .add 9 false false) [47, 52] none [(47, .imm), (52, .imm)] (fun hc => pr_addS _ _ _ r27 r28 hc) (.gp 54 (.bin .add 9 false false) [42, 53] none [(42, .imm), (53, .imm)] (fun hc => pr_addS _ _ _ (s20 ++ (r25 ++ r26)) (r27 ++ r28) hc) (.rd 1 [(4, qs ((s20 ++ (r25 ++ r26)) ++ (r27 ++ r28)))] [] (.blockN (.thenN (.region0 (.rd 2 [(38, qj 2), (55, qj 2)] [] (.loopN (.succ (.seq (.rg [(4, qs ((s20 ++ (r25 ++ r26)) ++ (r27 ++ r28))), (36, .one (.csl 300000 1 0 4)), (37, qj 4), (38, qj 2)] (W17 a0) (.rd 1 [(39, qb true)] [] (.thenN (.seq (.ct (.skip (.thenN (.seq (.block (.sr 3 [(8, qp 1 10), (41, qp 1 10), (40, qp 300000 2)] [] (.region0 (.rn 5 [(46, qs a0.F.a2.Text), (45, qp 1 11), (44, qp 1 10), (43, qp 1 10), (42, qs ((s20 ++ (r25 ++ r26)) ++ (r27 ++ r28)))] [] (.cm 47 false [[]] 49 [46] none [(46, .imm)] (F49_ok _ _) (fun r29 => ?_)))))))))))))))))))))))
    refine SimI.rn 4 ([(51, qj a0.F.a2.N)] ++ rp [50, 49, 48] (qp 1 10)) [] (.cm 52 false [[]] 46 [51] none [(51, .imm)] (F46_ok _ _) (fun r30 => ?_))
    refine SimI.gp 53 (.bin .add 9 false false) [47, 52] none [(47, .imm), (52, .imm)] (fun hc => pr_addS _ _ _ r29 r30 hc) (.gp 54 (.bin .add 9 false false) [42, 53] none [(42, .imm), (53, .imm)] (fun hc => pr_addS _ _ _ ((s20 ++ (r25 ++ r26)) ++ (r27 ++ r28)) (r29 ++ r30) hc) (.rd 1 [(4, qs (((s20 ++ (r25 ++ r26)) ++ (r27 ++ r28)) ++ (r29 ++ r30)))] [] (.blockN (.thenN (.region0 (.rd 2 [(38, qj 3), (55, qj 3)] [] (.loopN (.succ (.seq (.rg [(4, qs (((s20 ++ (r25 ++ r26)) ++ (r27 ++ r28)) ++ (r29 ++ r30))), (36, .one (.csl 300000 1 0 4)), (37, qj 4), (38, qj 3)] (W17 a0) (.rd 1 [(39, qb true)] [] (.thenN (.seq (.ct (.skip (.thenN (.seq (.block (.sr 3 [(8, qp 1 12), (41, qp 1 12), (40, qp 300000 3)] [] (.region0 (.rn 5 [(46, qs a0.F.a3.Text), (45, qp 1 13), (44, qp 1 12), (43, qp 1 12), (42, qs (((s20 ++ (r25 ++ r26)) ++ (r27 ++ r28)) ++ (r29 ++ r30)))] [] (.cm 47 false [[]] 49 [46] none [(46, .imm)] (F49_ok _ _) (fun r31 => ?_)))))))))))))))))))))))
    refine SimI.rn 4 ([(51, qj a0.F.a3.N)] ++ rp [50, 49, 48] (qp 1 12)) [] (.cm 52 false [[]] 46 [51] none [(51, .imm)] (F46_ok _ _) (fun r32 => ?_))
    exact SimI.gp 53 (.bin .add 9 false false) [47, 52] none [(47, .imm), (52, .imm)] (fun hc => pr_addS _ _ _ r31 r32 hc) (.gp 54 (.bin .add 9 false false) [42, 53] none [(42, .imm), (53, .imm)] (fun hc => pr_addS _ _ _ (((s20 ++ (r25 ++ r26)) ++ (r27 ++ r28)) ++ (r29 ++ r30)) (r31 ++ r32) hc) (.rd 1 [(4, qs ((((s20 ++ (r25 ++ r26)) ++ (r27 ++ r28)) ++ (r29 ++ r30)) ++ (r31 ++ r32)))] [] (.blockN (.thenN (.region0 (.rd 2 [(38, qj 4), (55, qj 4)] [] (.loopN (.succ (.seq (.rg [(4, qs ((((s20 ++ (r25 ++ r26)) ++ (r27 ++ r28)) ++ (r29 ++ r30)) ++ (r31 ++ r32))), (36, .one (.csl 300000 1 0 4)), (37, qj 4), (38, qj 4)] (W17 a0) (.rd 1 [(39, qb false)] [] (.thenN (.seq (.cf (.exit (.thenX (.loopX (.blockX (.thenN (.sr 3 ([(3, qj 0)] ++ rp [2, 56] (qs ((((s20 ++ (r25 ++ r26)) ++ (r27 ++ r28)) ++ (r29 ++ r30)) ++ (r31 ++ r32)))) [] (.ret .fn)))))))))))))))))))))
   ·refine SimI.ite (c := r22 = 2) (fun cr22 => ?_) (fun _ => ?_)
    ·refine SimI.se ⟨some 36, .gcall false false W13 [[]] 48 [1], none, []⟩ [(36, .one (.csl 300000 1 0 1))] (W80 a0) (pe (eff_gcall (ks := [1]) (rks := []) (new := [300000]) (ARGS := [qp 1 0]) (args1 := [qp 1 0]) (args2 := [qp 1000000 0]) (os := [.cells (Command.cells a0)]) (os' := [.cells (Command.cells a0), .cells [.ptr 1000000 14]]) (os1 := [.cells (Command.cells a0), .cells [.ptr 1000000 14]]) (res := .one (.csl 1000001 1 0 1)) (res1 := .one (.csl 1000001 1 0 1)) (r := .one (.csl 300000 1 0 1)) (N := (W80 a0)) (by kernel_rfl) (readA_ow (readA_keep (by kernel_rfl) (readA_nil))) (by kernel_rfl) (by kernel_rfl) (by kernel_rfl) (by kernel_rfl) ((F48s0_ok _ _ _ hr22).trans (congrArg some (F48s0_e_2 a0 r22 cr22))) (by kernel_rfl) (by kernel_rfl) (by kernel_rfl) rfl (by kernel_rfl) (by kernel_rfl) (by kernel_rfl))) (.rd 2 [(38, qj 0), (37, qj 1)] [] (.thenN (.block (.loop (.succ (.seq (.rg [(4, qs s20), (36, .one (.csl 300000 1 0 1)), (37, qj 1), (38, qj 0)] (W80 a0) (.rd 1 [(39, qb true)] [] (.thenN (.seq (.ct (.skip (.thenN (.seq (.block (.sr 3 [(8, qp 1 14), (41, qp 1 14), (40, qp 300000 0)] [] (.region0 (.rn 5 [(46, qs a0.Value.Text), (45, qp 1 15), (44, qp 1 14), (43, qp 1 14), (42, qs s20)] [] (.cm 47 false [[]] 49 [46] none [(46, .imm)] (F49_ok _ _) (fun r23 => ?_))))))))))))))))))))
     refine SimI.rn 4 ([(51, qj a0.Value.N)] ++ rp [50, 49, 48] (qp 1 14)) [] (.cm 52 false [[]] 46 [51] none [(51, .imm)] (F46_ok _ _) (fun r24 => ?_))
     exact SimI.gp 53 (.bin .add 9 false false) [47, 52] none [(47, .imm), (52, .imm)] (fun hc => pr_addS _ _ _ r23 r24 hc) (.gp 54 (.bin .add 9 false false) [42, 53] none [(42, .imm), (53, .imm)] (fun hc => pr_addS _ _ _ s20 (r23 ++ r24) hc) (.rd 1 [(4, qs (s20 ++ (r23 ++ r24)))] [] (.blockN (.thenN (.region0 (.rd 2 [(38, qj 1), (55, qj 1)] [] (.loopN (.succ (.seq (.rg [(4, qs (s20 ++ (r23 ++ r24))), (36, .one (.csl 300000 1 0 1)), (37, qj 1), (38, qj 1)] (W80 a0) (.rd 1 [(39, qb false)] [] (.thenN (.seq (.cf (.exit (.thenX (.loopX (.blockX (.thenN (.sr 3 ([(3, qj 0)] ++ rp [2, 56] (qs (s20 ++ (r23 ++ r24)))) [] (.ret .fn)))))))))))))))))))))
    ·exact SimI.vac rfl
def F21 (n : Nat) (a0 : Command) : Option (ByteArray × Int) :=
 (F32 n a0).bind fun (r1 : Bool) =>
 if !(r1) then
  some (ByteArray.empty, 11)
 else
  (F46 n a0.Kind).bind fun (r2 : ByteArray) =>
  (F46 n a0.Client).bind fun (r3 : ByteArray) =>
  if r2.size + r3.size ≤ 9223372036854775807 then
   (F46 n a0.Session).bind fun (r4 : ByteArray) =>
   if (r2 ++ r3).size + r4.size ≤ 9223372036854775807 then
    (F47s0 n a0).bind fun (r5 : Nat) =>
    if r5 = 0 then
     F21_j21 n a0 ((r2 ++ r3) ++ r4)
    else
     if r5 = 1 then
      (F46 n a0.At.X).bind fun (r18 : ByteArray) =>
      if ((r2 ++ r3) ++ r4).size + r18.size ≤ 9223372036854775807 then
       (F46 n a0.At.Y).bind fun (r19 : ByteArray) =>
       if (((r2 ++ r3) ++ r4) ++ r18).size + r19.size ≤ 9223372036854775807 then
        F21_j21 n a0 ((((r2 ++ r3) ++ r4) ++ r18) ++ r19)
       else none
      else none
     else
      if r5 = 2 then
       (F46 n a0.ID).bind fun (r15 : ByteArray) =>
       if ((r2 ++ r3) ++ r4).size + r15.size ≤ 9223372036854775807 then
        (F46 n a0.At.X).bind fun (r16 : ByteArray) =>
        if (((r2 ++ r3) ++ r4) ++ r15).size + r16.size ≤ 9223372036854775807 then
         (F46 n a0.At.Y).bind fun (r17 : ByteArray) =>
         if ((((r2 ++ r3) ++ r4) ++ r15) ++ r16).size + r17.size ≤ 9223372036854775807 then
          F21_j21 n a0 (((((r2 ++ r3) ++ r4) ++ r15) ++ r16) ++ r17)
         else none
        else none
       else none
      else
       if r5 = 3 then
        (F46 n a0.ID).bind fun (r13 : ByteArray) =>
        if ((r2 ++ r3) ++ r4).size + r13.size ≤ 9223372036854775807 then
         (F46 n a0.Which).bind fun (r14 : ByteArray) =>
         if (((r2 ++ r3) ++ r4) ++ r13).size + r14.size ≤ 9223372036854775807 then
          F21_j21 n a0 ((((r2 ++ r3) ++ r4) ++ r13) ++ r14)
         else none
        else none
       else
        if r5 = 4 then
         (F46 n a0.ID).bind fun (r12 : ByteArray) =>
         if ((r2 ++ r3) ++ r4).size + r12.size ≤ 9223372036854775807 then
          F21_j21 n a0 (((r2 ++ r3) ++ r4) ++ r12)
         else none
        else
         if r5 = 5 then
          (F46 n a0.Which).bind fun (r10 : ByteArray) =>
          if ((r2 ++ r3) ++ r4).size + r10.size ≤ 9223372036854775807 then
           (F46 n a0.To).bind fun (r11 : ByteArray) =>
           if (((r2 ++ r3) ++ r4) ++ r10).size + r11.size ≤ 9223372036854775807 then
            F21_j21 n a0 ((((r2 ++ r3) ++ r4) ++ r10) ++ r11)
           else none
          else none
         else
          if r5 = 6 then
           (F46 n a0.Rect.X0).bind fun (r6 : ByteArray) =>
           if ((r2 ++ r3) ++ r4).size + r6.size ≤ 9223372036854775807 then
            (F46 n a0.Rect.Y0).bind fun (r7 : ByteArray) =>
            if (((r2 ++ r3) ++ r4) ++ r6).size + r7.size ≤ 9223372036854775807 then
             (F46 n a0.Rect.X1).bind fun (r8 : ByteArray) =>
             if ((((r2 ++ r3) ++ r4) ++ r6) ++ r7).size + r8.size ≤ 9223372036854775807 then
              (F46 n a0.Rect.Y1).bind fun (r9 : ByteArray) =>
              if (((((r2 ++ r3) ++ r4) ++ r6) ++ r7) ++ r8).size + r9.size ≤ 9223372036854775807 then
               F21_j21 n a0 ((((((r2 ++ r3) ++ r4) ++ r6) ++ r7) ++ r8) ++ r9)
              else none
             else none
            else none
           else none
          else
           none
   else none
  else none
theorem F21_ok (n : Nat) (a0 : Command) : ∀ r, F21 n a0 = some r → D 21 [.agg (Command.cells a0)] [] = some (F21_e r) := by
 refine fn_to (D := D) (n := n + 8) (nt := 57) (rs := pc21_r) (c := p21c49) (L := (W141 a0)) (M := []) (k := 0) rfl rfl rfl rfl rfl rfl rfl ?_
 unfold F21
 refine Sim.sr 3 W132 (W7 a0) (.seq (.st 1 [(9, .agg (Command.cells a0))] [] (.cl 10 true [[]] 32 [9] none (fun r1 => qb r1) [.agg (Command.cells a0)] (F32_ok _ _) (fun r1 => ?_))))
 refine SimI.rd 1 [(11, qb (!(r1)))] [] (.thenN (.cd _ ?_ ?_))
 ·exact Sim.sr 2 [(3, qj 11), (2, qs be)] [] (.ret (.thenR .fn))
 ·refine Sim.skip (.thenN (.st 2 [(13, qj a0.Kind), (12, qp 1 0)] [] (.cm 14 false [[]] 46 [13] none [(13, .imm)] (F46_ok _ _) (fun r2 => ?_))))
  refine SimI.rn 2 [(16, qj a0.Client), (15, qp 1 16)] [] (.cm 17 false [[]] 46 [16] none [(16, .imm)] (F46_ok _ _) (fun r3 => ?_))
  refine SimI.gp 18 (.bin .add 9 false false) [14, 17] none [(14, .imm), (17, .imm)] (fun hc => pr_addS _ _ _ r2 r3 hc) (.rn 2 [(20, qj a0.Session), (19, qp 1 17)] [] (.cm 21 false [[]] 46 [20] none [(20, .imm)] (F46_ok _ _) (fun r4 => ?_)))
  refine SimI.gp 22 (.bin .add 9 false false) [18, 21] none [(18, .imm), (21, .imm)] (fun hc => pr_addS _ _ _ (r2 ++ r3) r4 hc) (.rd 1 [(4, qs ((r2 ++ r3) ++ r4))] [] (.thenN (.seq (.seq (.region0 (.open (og := F47s0 n a0) (fun r5 hr5 => ?_)))))))
  refine SimI.ite (c := r5 = 0) (fun cr5 => ?_) (fun _ => ?_)
  ·refine SimI.se ⟨some 23, .gcall false false W13 [[]] 47 [1], none, []⟩ [(23, .one (.view 1 0 fun _ => []))] (W7 a0) (pe (gq (ks := [1]) (ARGS := [qp 1 0]) ((F47s0_ok _ _ _ hr5).trans (congrArg some (F47s0_e_0 a0 r5 cr5))))) (.rd 2 [(25, qj 0), (24, qj 0)] [] (.thenN (.block (.loop (.succ (.seq (.rg [(1, qp 1 0), (4, qs ((r2 ++ r3) ++ r4)), (23, .one (.view 1 0 fun _ => [])), (24, qj 0), (25, qj 0)] (W7 a0) (.rd 1 [(26, qb false)] [] (.thenN (.seq (.cf (.exit (.thenX (.loopX (.blockX (.thenN (.pr [1, 4] [1, 300000] [] [(1, qp 1 0), (4, qs ((r2 ++ r3) ++ r4))] (W7 a0) ?_)))))))))))))))))
   exact F21_j21_ok n a0 ((r2 ++ r3) ++ r4)
  ·refine SimI.ite (c := r5 = 1) (fun cr5 => ?_) (fun _ => ?_)
   ·refine SimI.se ⟨some 23, .gcall false false W13 [[]] 47 [1], none, []⟩ [(23, .one (.csl 300000 1 0 2))] (W45 a0) (pe (eff_gcall (ks := [1]) (rks := []) (new := [300000]) (ARGS := [qp 1 0]) (args1 := [qp 1 0]) (args2 := [qp 1000000 0]) (os := [.cells (Command.cells a0)]) (os' := [.cells (Command.cells a0), .cells W114]) (os1 := [.cells (Command.cells a0), .cells W114]) (res := .one (.csl 1000001 1 0 2)) (res1 := .one (.csl 1000001 1 0 2)) (r := .one (.csl 300000 1 0 2)) (N := (W45 a0)) (by kernel_rfl) (readA_ow (readA_keep (by kernel_rfl) (readA_nil))) (by kernel_rfl) (by kernel_rfl) (by kernel_rfl) (by kernel_rfl) ((F47s0_ok _ _ _ hr5).trans (congrArg some (F47s0_e_1 a0 r5 cr5))) (by kernel_rfl) (by kernel_rfl) (by kernel_rfl) rfl (by kernel_rfl) (by kernel_rfl) (by kernel_rfl))) (.rd 2 [(25, qj 0), (24, qj 2)] [] (.thenN (.block (.loop (.succ (.seq (.rg (W126 r2 r3 r4) (W45 a0) (.rd 1 [(26, qb true)] [] (.thenN (.seq (.ct (.skip (.thenN (.seq (.block (.sr 3 [(6, qp 1 4), (28, qp 1 4), (27, qp 300000 0)] [] (.region0 (.rn 4 [(32, qj a0.At.X), (31, qp 1 4), (30, qp 1 4), (29, qs ((r2 ++ r3) ++ r4))] [] (.cl 33 true [[]] 46 [32] none (fun r18 => qs r18) [qj a0.At.X] (F46_ok _ _) (fun r18 => ?_))))))))))))))))))))
    refine SimI.gp 34 (.bin .add 9 false false) [29, 33] none [] (fun hc => pr_addS _ _ _ ((r2 ++ r3) ++ r4) r18 hc) (.rd 1 [(4, qs (((r2 ++ r3) ++ r4) ++ r18))] [] (.blockN (.thenN (.region0 (.rd 2 [(25, qj 1), (35, qj 1)] [] (.loopN (.succ (.seq (.rg (W140 r2 r3 r4 r18) (W45 a0) (.rd 1 [(26, qb true)] [] (.thenN (.seq (.ct (.skip (.thenN (.seq (.block (.sr 3 [(6, qp 1 5), (28, qp 1 5), (27, qp 300000 1)] [] (.region0 (.rn 4 [(32, qj a0.At.Y), (31, qp 1 5), (30, qp 1 5), (29, qs (((r2 ++ r3) ++ r4) ++ r18))] [] (.cl 33 true [[]] 46 [32] none (fun r19 => qs r19) [qj a0.At.Y] (F46_ok _ _) (fun r19 => ?_))))))))))))))))))))))
    refine SimI.gp 34 (.bin .add 9 false false) [29, 33] none [] (fun hc => pr_addS _ _ _ (((r2 ++ r3) ++ r4) ++ r18) r19 hc) (.rd 1 [(4, qs ((((r2 ++ r3) ++ r4) ++ r18) ++ r19))] [] (.blockN (.thenN (.region0 (.rd 2 [(25, qj 2), (35, qj 2)] [] (.loopN (.succ (.seq (.rg (W158 r2 r3 r4 r18 r19) (W45 a0) (.rd 1 [(26, qb false)] [] (.thenN (.seq (.cf (.exit (.thenX (.loopX (.blockX (.thenN (.pr [1, 4] [1, 300000] [] [(1, qp 1 0), (4, qs ((((r2 ++ r3) ++ r4) ++ r18) ++ r19))] (W7 a0) ?_)))))))))))))))))))
    exact F21_j21_ok n a0 ((((r2 ++ r3) ++ r4) ++ r18) ++ r19)
   ·refine SimI.ite (c := r5 = 2) (fun cr5 => ?_) (fun _ => ?_)
    ·refine SimI.se ⟨some 23, .gcall false false W13 [[]] 47 [1], none, []⟩ [(23, .one (.csl 300000 1 0 3))] (W31 a0) (pe (eff_gcall (ks := [1]) (rks := []) (new := [300000]) (ARGS := [qp 1 0]) (args1 := [qp 1 0]) (args2 := [qp 1000000 0]) (os := [.cells (Command.cells a0)]) (os' := [.cells (Command.cells a0), .cells W73]) (os1 := [.cells (Command.cells a0), .cells W73]) (res := .one (.csl 1000001 1 0 3)) (res1 := .one (.csl 1000001 1 0 3)) (r := .one (.csl 300000 1 0 3)) (N := (W31 a0)) (by kernel_rfl) (readA_ow (readA_keep (by kernel_rfl) (readA_nil))) (by kernel_rfl) (by kernel_rfl) (by kernel_rfl) (by kernel_rfl) ((F47s0_ok _ _ _ hr5).trans (congrArg some (F47s0_e_2 a0 r5 cr5))) (by kernel_rfl) (by kernel_rfl) (by kernel_rfl) rfl (by kernel_rfl) (by kernel_rfl) (by kernel_rfl))) (.rd 2 [(25, qj 0), (24, qj 3)] [] (.thenN (.block (.loop (.succ (.seq (.rg [(1, qp 1 0), (4, qs ((r2 ++ r3) ++ r4)), (23, .one (.csl 300000 1 0 3)), (24, qj 3), (25, qj 0)] (W31 a0) (.rd 1 [(26, qb true)] [] (.thenN (.seq (.ct (.skip (.thenN (.seq (.block (.sr 3 W145 [] (.region0 (.rn 4 [(32, qj a0.ID), (31, qp 1 1), (30, qp 1 1), (29, qs ((r2 ++ r3) ++ r4))] [] (.cl 33 true [[]] 46 [32] none (fun r15 => qs r15) [qj a0.ID] (F46_ok _ _) (fun r15 => ?_))))))))))))))))))))
     refine SimI.gp 34 (.bin .add 9 false false) [29, 33] none [] (fun hc => pr_addS _ _ _ ((r2 ++ r3) ++ r4) r15 hc) (.rd 1 [(4, qs (((r2 ++ r3) ++ r4) ++ r15))] [] (.blockN (.thenN (.region0 (.rd 2 [(25, qj 1), (35, qj 1)] [] (.loopN (.succ (.seq (.rg [(1, qp 1 0), (4, qs (((r2 ++ r3) ++ r4) ++ r15)), (23, .one (.csl 300000 1 0 3)), (24, qj 3), (25, qj 1)] (W31 a0) (.rd 1 [(26, qb true)] [] (.thenN (.seq (.ct (.skip (.thenN (.seq (.block (.sr 3 [(6, qp 1 4), (28, qp 1 4), (27, qp 300000 1)] [] (.region0 (.rn 4 [(32, qj a0.At.X), (31, qp 1 4), (30, qp 1 4), (29, qs (((r2 ++ r3) ++ r4) ++ r15))] [] (.cl 33 true [[]] 46 [32] none (fun r16 => qs r16) [qj a0.At.X] (F46_ok _ _) (fun r16 => ?_))))))))))))))))))))))
     refine SimI.gp 34 (.bin .add 9 false false) [29, 33] none [] (fun hc => pr_addS _ _ _ (((r2 ++ r3) ++ r4) ++ r15) r16 hc) (.rd 1 [(4, qs ((((r2 ++ r3) ++ r4) ++ r15) ++ r16))] [] (.blockN (.thenN (.region0 (.rd 2 [(25, qj 2), (35, qj 2)] [] (.loopN (.succ (.seq (.rg [(1, qp 1 0), (4, qs ((((r2 ++ r3) ++ r4) ++ r15) ++ r16)), (23, .one (.csl 300000 1 0 3)), (24, qj 3), (25, qj 2)] (W31 a0) (.rd 1 [(26, qb true)] [] (.thenN (.seq (.ct (.skip (.thenN (.seq (.block (.sr 3 [(6, qp 1 5), (28, qp 1 5), (27, qp 300000 2)] [] (.region0 (.rn 4 [(32, qj a0.At.Y), (31, qp 1 5), (30, qp 1 5), (29, qs ((((r2 ++ r3) ++ r4) ++ r15) ++ r16))] [] (.cl 33 true [[]] 46 [32] none (fun r17 => qs r17) [qj a0.At.Y] (F46_ok _ _) (fun r17 => ?_))))))))))))))))))))))
     refine SimI.gp 34 (.bin .add 9 false false) [29, 33] none [] (fun hc => pr_addS _ _ _ ((((r2 ++ r3) ++ r4) ++ r15) ++ r16) r17 hc) (.rd 1 [(4, qs (((((r2 ++ r3) ++ r4) ++ r15) ++ r16) ++ r17))] [] (.blockN (.thenN (.region0 (.rd 2 [(25, qj 3), (35, qj 3)] [] (.loopN (.succ (.seq (.rg [(1, qp 1 0), (4, qs (((((r2 ++ r3) ++ r4) ++ r15) ++ r16) ++ r17)), (23, .one (.csl 300000 1 0 3)), (24, qj 3), (25, qj 3)] (W31 a0) (.rd 1 [(26, qb false)] [] (.thenN (.seq (.cf (.exit (.thenX (.loopX (.blockX (.thenN (.pr [1, 4] [1, 300000] [] [(1, qp 1 0), (4, qs (((((r2 ++ r3) ++ r4) ++ r15) ++ r16) ++ r17))] (W7 a0) ?_)))))))))))))))))))
     exact F21_j21_ok n a0 (((((r2 ++ r3) ++ r4) ++ r15) ++ r16) ++ r17)
    ·refine SimI.ite (c := r5 = 3) (fun cr5 => ?_) (fun _ => ?_)
     ·refine SimI.se ⟨some 23, .gcall false false W13 [[]] 47 [1], none, []⟩ [(23, .one (.csl 300000 1 0 2))] (W46 a0) (pe (eff_gcall (ks := [1]) (rks := []) (new := [300000]) (ARGS := [qp 1 0]) (args1 := [qp 1 0]) (args2 := [qp 1000000 0]) (os := [.cells (Command.cells a0)]) (os' := [.cells (Command.cells a0), .cells W115]) (os1 := [.cells (Command.cells a0), .cells W115]) (res := .one (.csl 1000001 1 0 2)) (res1 := .one (.csl 1000001 1 0 2)) (r := .one (.csl 300000 1 0 2)) (N := (W46 a0)) (by kernel_rfl) (readA_ow (readA_keep (by kernel_rfl) (readA_nil))) (by kernel_rfl) (by kernel_rfl) (by kernel_rfl) (by kernel_rfl) ((F47s0_ok _ _ _ hr5).trans (congrArg some (F47s0_e_3 a0 r5 cr5))) (by kernel_rfl) (by kernel_rfl) (by kernel_rfl) rfl (by kernel_rfl) (by kernel_rfl) (by kernel_rfl))) (.rd 2 [(25, qj 0), (24, qj 2)] [] (.thenN (.block (.loop (.succ (.seq (.rg (W126 r2 r3 r4) (W46 a0) (.rd 1 [(26, qb true)] [] (.thenN (.seq (.ct (.skip (.thenN (.seq (.block (.sr 3 W145 [] (.region0 (.rn 4 [(32, qj a0.ID), (31, qp 1 1), (30, qp 1 1), (29, qs ((r2 ++ r3) ++ r4))] [] (.cl 33 true [[]] 46 [32] none (fun r13 => qs r13) [qj a0.ID] (F46_ok _ _) (fun r13 => ?_))))))))))))))))))))
      refine SimI.gp 34 (.bin .add 9 false false) [29, 33] none [] (fun hc => pr_addS _ _ _ ((r2 ++ r3) ++ r4) r13 hc) (.rd 1 [(4, qs (((r2 ++ r3) ++ r4) ++ r13))] [] (.blockN (.thenN (.region0 (.rd 2 [(25, qj 1), (35, qj 1)] [] (.loopN (.succ (.seq (.rg (W140 r2 r3 r4 r13) (W46 a0) (.rd 1 [(26, qb true)] [] (.thenN (.seq (.ct (.skip (.thenN (.seq (.block (.sr 3 [(6, qp 1 2), (28, qp 1 2), (27, qp 300000 1)] [] (.region0 (.rn 4 [(32, qj a0.Which), (31, qp 1 2), (30, qp 1 2), (29, qs (((r2 ++ r3) ++ r4) ++ r13))] [] (.cl 33 true [[]] 46 [32] none (fun r14 => qs r14) [qj a0.Which] (F46_ok _ _) (fun r14 => ?_))))))))))))))))))))))
      refine SimI.gp 34 (.bin .add 9 false false) [29, 33] none [] (fun hc => pr_addS _ _ _ (((r2 ++ r3) ++ r4) ++ r13) r14 hc) (.rd 1 [(4, qs ((((r2 ++ r3) ++ r4) ++ r13) ++ r14))] [] (.blockN (.thenN (.region0 (.rd 2 [(25, qj 2), (35, qj 2)] [] (.loopN (.succ (.seq (.rg (W158 r2 r3 r4 r13 r14) (W46 a0) (.rd 1 [(26, qb false)] [] (.thenN (.seq (.cf (.exit (.thenX (.loopX (.blockX (.thenN (.pr [1, 4] [1, 300000] [] [(1, qp 1 0), (4, qs ((((r2 ++ r3) ++ r4) ++ r13) ++ r14))] (W7 a0) ?_)))))))))))))))))))
      exact F21_j21_ok n a0 ((((r2 ++ r3) ++ r4) ++ r13) ++ r14)
     ·refine SimI.ite (c := r5 = 4) (fun cr5 => ?_) (fun _ => ?_)
      ·refine SimI.se ⟨some 23, .gcall false false W13 [[]] 47 [1], none, []⟩ [(23, .one (.csl 300000 1 0 1))] (W82 a0) (pe (eff_gcall (ks := [1]) (rks := []) (new := [300000]) (ARGS := [qp 1 0]) (args1 := [qp 1 0]) (args2 := [qp 1000000 0]) (os := [.cells (Command.cells a0)]) (os' := [.cells (Command.cells a0), .cells [.ptr 1000000 1]]) (os1 := [.cells (Command.cells a0), .cells [.ptr 1000000 1]]) (res := .one (.csl 1000001 1 0 1)) (res1 := .one (.csl 1000001 1 0 1)) (r := .one (.csl 300000 1 0 1)) (N := (W82 a0)) (by kernel_rfl) (readA_ow (readA_keep (by kernel_rfl) (readA_nil))) (by kernel_rfl) (by kernel_rfl) (by kernel_rfl) (by kernel_rfl) ((F47s0_ok _ _ _ hr5).trans (congrArg some (F47s0_e_4 a0 r5 cr5))) (by kernel_rfl) (by kernel_rfl) (by kernel_rfl) rfl (by kernel_rfl) (by kernel_rfl) (by kernel_rfl))) (.rd 2 [(25, qj 0), (24, qj 1)] [] (.thenN (.block (.loop (.succ (.seq (.rg [(1, qp 1 0), (4, qs ((r2 ++ r3) ++ r4)), (23, .one (.csl 300000 1 0 1)), (24, qj 1), (25, qj 0)] (W82 a0) (.rd 1 [(26, qb true)] [] (.thenN (.seq (.ct (.skip (.thenN (.seq (.block (.sr 3 W145 [] (.region0 (.rn 4 [(32, qj a0.ID), (31, qp 1 1), (30, qp 1 1), (29, qs ((r2 ++ r3) ++ r4))] [] (.cl 33 true [[]] 46 [32] none (fun r12 => qs r12) [qj a0.ID] (F46_ok _ _) (fun r12 => ?_))))))))))))))))))))
       refine SimI.gp 34 (.bin .add 9 false false) [29, 33] none [] (fun hc => pr_addS _ _ _ ((r2 ++ r3) ++ r4) r12 hc) (.rd 1 [(4, qs (((r2 ++ r3) ++ r4) ++ r12))] [] (.blockN (.thenN (.region0 (.rd 2 [(25, qj 1), (35, qj 1)] [] (.loopN (.succ (.seq (.rg [(1, qp 1 0), (4, qs (((r2 ++ r3) ++ r4) ++ r12)), (23, .one (.csl 300000 1 0 1)), (24, qj 1), (25, qj 1)] (W82 a0) (.rd 1 [(26, qb false)] [] (.thenN (.seq (.cf (.exit (.thenX (.loopX (.blockX (.thenN (.pr [1, 4] [1, 300000] [] [(1, qp 1 0), (4, qs (((r2 ++ r3) ++ r4) ++ r12))] (W7 a0) ?_)))))))))))))))))))
       exact F21_j21_ok n a0 (((r2 ++ r3) ++ r4) ++ r12)
      ·refine SimI.ite (c := r5 = 5) (fun cr5 => ?_) (fun _ => ?_)
       ·refine SimI.se ⟨some 23, .gcall false false W13 [[]] 47 [1], none, []⟩ [(23, .one (.csl 300000 1 0 2))] (W47 a0) (pe (eff_gcall (ks := [1]) (rks := []) (new := [300000]) (ARGS := [qp 1 0]) (args1 := [qp 1 0]) (args2 := [qp 1000000 0]) (os := [.cells (Command.cells a0)]) (os' := [.cells (Command.cells a0), .cells W116]) (os1 := [.cells (Command.cells a0), .cells W116]) (res := .one (.csl 1000001 1 0 2)) (res1 := .one (.csl 1000001 1 0 2)) (r := .one (.csl 300000 1 0 2)) (N := (W47 a0)) (by kernel_rfl) (readA_ow (readA_keep (by kernel_rfl) (readA_nil))) (by kernel_rfl) (by kernel_rfl) (by kernel_rfl) (by kernel_rfl) ((F47s0_ok _ _ _ hr5).trans (congrArg some (F47s0_e_5 a0 r5 cr5))) (by kernel_rfl) (by kernel_rfl) (by kernel_rfl) rfl (by kernel_rfl) (by kernel_rfl) (by kernel_rfl))) (.rd 2 [(25, qj 0), (24, qj 2)] [] (.thenN (.block (.loop (.succ (.seq (.rg (W126 r2 r3 r4) (W47 a0) (.rd 1 [(26, qb true)] [] (.thenN (.seq (.ct (.skip (.thenN (.seq (.block (.sr 3 [(6, qp 1 2), (28, qp 1 2), (27, qp 300000 0)] [] (.region0 (.rn 4 [(32, qj a0.Which), (31, qp 1 2), (30, qp 1 2), (29, qs ((r2 ++ r3) ++ r4))] [] (.cl 33 true [[]] 46 [32] none (fun r10 => qs r10) [qj a0.Which] (F46_ok _ _) (fun r10 => ?_))))))))))))))))))))
        refine SimI.gp 34 (.bin .add 9 false false) [29, 33] none [] (fun hc => pr_addS _ _ _ ((r2 ++ r3) ++ r4) r10 hc) (.rd 1 [(4, qs (((r2 ++ r3) ++ r4) ++ r10))] [] (.blockN (.thenN (.region0 (.rd 2 [(25, qj 1), (35, qj 1)] [] (.loopN (.succ (.seq (.rg (W140 r2 r3 r4 r10) (W47 a0) (.rd 1 [(26, qb true)] [] (.thenN (.seq (.ct (.skip (.thenN (.seq (.block (.sr 3 [(6, qp 1 3), (28, qp 1 3), (27, qp 300000 1)] [] (.region0 (.rn 4 [(32, qj a0.To), (31, qp 1 3), (30, qp 1 3), (29, qs (((r2 ++ r3) ++ r4) ++ r10))] [] (.cl 33 true [[]] 46 [32] none (fun r11 => qs r11) [qj a0.To] (F46_ok _ _) (fun r11 => ?_))))))))))))))))))))))
        refine SimI.gp 34 (.bin .add 9 false false) [29, 33] none [] (fun hc => pr_addS _ _ _ (((r2 ++ r3) ++ r4) ++ r10) r11 hc) (.rd 1 [(4, qs ((((r2 ++ r3) ++ r4) ++ r10) ++ r11))] [] (.blockN (.thenN (.region0 (.rd 2 [(25, qj 2), (35, qj 2)] [] (.loopN (.succ (.seq (.rg (W158 r2 r3 r4 r10 r11) (W47 a0) (.rd 1 [(26, qb false)] [] (.thenN (.seq (.cf (.exit (.thenX (.loopX (.blockX (.thenN (.pr [1, 4] [1, 300000] [] [(1, qp 1 0), (4, qs ((((r2 ++ r3) ++ r4) ++ r10) ++ r11))] (W7 a0) ?_)))))))))))))))))))
        exact F21_j21_ok n a0 ((((r2 ++ r3) ++ r4) ++ r10) ++ r11)
       ·refine SimI.ite (c := r5 = 6) (fun cr5 => ?_) (fun _ => ?_)
        ·refine SimI.se ⟨some 23, .gcall false false W13 [[]] 47 [1], none, []⟩ [(23, .one (.csl 300000 1 0 4))] (W15 a0) (pe (eff_gcall (ks := [1]) (rks := []) (new := [300000]) (ARGS := [qp 1 0]) (args1 := [qp 1 0]) (args2 := [qp 1000000 0]) (os := [.cells (Command.cells a0)]) (os' := [.cells (Command.cells a0), .cells W53]) (os1 := [.cells (Command.cells a0), .cells W53]) (res := .one (.csl 1000001 1 0 4)) (res1 := .one (.csl 1000001 1 0 4)) (r := .one (.csl 300000 1 0 4)) (N := (W15 a0)) (by kernel_rfl) (readA_ow (readA_keep (by kernel_rfl) (readA_nil))) (by kernel_rfl) (by kernel_rfl) (by kernel_rfl) (by kernel_rfl) ((F47s0_ok _ _ _ hr5).trans (congrArg some (F47s0_e_6 a0 r5 cr5))) (by kernel_rfl) (by kernel_rfl) (by kernel_rfl) rfl (by kernel_rfl) (by kernel_rfl) (by kernel_rfl))) (.rd 2 [(25, qj 0), (24, qj 4)] [] (.thenN (.block (.loop (.succ (.seq (.rg [(1, qp 1 0), (4, qs ((r2 ++ r3) ++ r4)), (23, .one (.csl 300000 1 0 4)), (24, qj 4), (25, qj 0)] (W15 a0) (.rd 1 [(26, qb true)] [] (.thenN (.seq (.ct (.skip (.thenN (.seq (.block (.sr 3 [(6, qp 1 18), (28, qp 1 18), (27, qp 300000 0)] [] (.region0 (.rn 4 [(32, qj a0.Rect.X0), (31, qp 1 18), (30, qp 1 18), (29, qs ((r2 ++ r3) ++ r4))] [] (.cl 33 true [[]] 46 [32] none (fun r6 => qs r6) [qj a0.Rect.X0] (F46_ok _ _) (fun r6 => ?_))))))))))))))))))))
         refine SimI.gp 34 (.bin .add 9 false false) [29, 33] none [] (fun hc => pr_addS _ _ _ ((r2 ++ r3) ++ r4) r6 hc) (.rd 1 [(4, qs (((r2 ++ r3) ++ r4) ++ r6))] [] (.blockN (.thenN (.region0 (.rd 2 [(25, qj 1), (35, qj 1)] [] (.loopN (.succ (.seq (.rg [(1, qp 1 0), (4, qs (((r2 ++ r3) ++ r4) ++ r6)), (23, .one (.csl 300000 1 0 4)), (24, qj 4), (25, qj 1)] (W15 a0) (.rd 1 [(26, qb true)] [] (.thenN (.seq (.ct (.skip (.thenN (.seq (.block (.sr 3 [(6, qp 1 19), (28, qp 1 19), (27, qp 300000 1)] [] (.region0 (.rn 4 [(32, qj a0.Rect.Y0), (31, qp 1 19), (30, qp 1 19), (29, qs (((r2 ++ r3) ++ r4) ++ r6))] [] (.cl 33 true [[]] 46 [32] none (fun r7 => qs r7) [qj a0.Rect.Y0] (F46_ok _ _) (fun r7 => ?_))))))))))))))))))))))
         refine SimI.gp 34 (.bin .add 9 false false) [29, 33] none [] (fun hc => pr_addS _ _ _ (((r2 ++ r3) ++ r4) ++ r6) r7 hc) (.rd 1 [(4, qs ((((r2 ++ r3) ++ r4) ++ r6) ++ r7))] [] (.blockN (.thenN (.region0 (.rd 2 [(25, qj 2), (35, qj 2)] [] (.loopN (.succ (.seq (.rg [(1, qp 1 0), (4, qs ((((r2 ++ r3) ++ r4) ++ r6) ++ r7)), (23, .one (.csl 300000 1 0 4)), (24, qj 4), (25, qj 2)] (W15 a0) (.rd 1 [(26, qb true)] [] (.thenN (.seq (.ct (.skip (.thenN (.seq (.block (.sr 3 [(6, qp 1 20), (28, qp 1 20), (27, qp 300000 2)] [] (.region0 (.rn 4 [(32, qj a0.Rect.X1), (31, qp 1 20), (30, qp 1 20), (29, qs ((((r2 ++ r3) ++ r4) ++ r6) ++ r7))] [] (.cl 33 true [[]] 46 [32] none (fun r8 => qs r8) [qj a0.Rect.X1] (F46_ok _ _) (fun r8 => ?_))))))))))))))))))))))
         refine SimI.gp 34 (.bin .add 9 false false) [29, 33] none [] (fun hc => pr_addS _ _ _ ((((r2 ++ r3) ++ r4) ++ r6) ++ r7) r8 hc) (.rd 1 [(4, qs (((((r2 ++ r3) ++ r4) ++ r6) ++ r7) ++ r8))] [] (.blockN (.thenN (.region0 (.rd 2 [(25, qj 3), (35, qj 3)] [] (.loopN (.succ (.seq (.rg [(1, qp 1 0), (4, qs (((((r2 ++ r3) ++ r4) ++ r6) ++ r7) ++ r8)), (23, .one (.csl 300000 1 0 4)), (24, qj 4), (25, qj 3)] (W15 a0) (.rd 1 [(26, qb true)] [] (.thenN (.seq (.ct (.skip (.thenN (.seq (.block (.sr 3 [(6, qp 1 21), (28, qp 1 21), (27, qp 300000 3)] [] (.region0 (.rn 4 [(32, qj a0.Rect.Y1), (31, qp 1 21), (30, qp 1 21), (29, qs (((((r2 ++ r3) ++ r4) ++ r6) ++ r7) ++ r8))] [] (.cl 33 true [[]] 46 [32] none (fun r9 => qs r9) [qj a0.Rect.Y1] (F46_ok _ _) (fun r9 => ?_))))))))))))))))))))))
         refine SimI.gp 34 (.bin .add 9 false false) [29, 33] none [] (fun hc => pr_addS _ _ _ (((((r2 ++ r3) ++ r4) ++ r6) ++ r7) ++ r8) r9 hc) (.rd 1 [(4, qs ((((((r2 ++ r3) ++ r4) ++ r6) ++ r7) ++ r8) ++ r9))] [] (.blockN (.thenN (.region0 (.rd 2 [(25, qj 4), (35, qj 4)] [] (.loopN (.succ (.seq (.rg [(1, qp 1 0), (4, qs ((((((r2 ++ r3) ++ r4) ++ r6) ++ r7) ++ r8) ++ r9)), (23, .one (.csl 300000 1 0 4)), (24, qj 4), (25, qj 4)] (W15 a0) (.rd 1 [(26, qb false)] [] (.thenN (.seq (.cf (.exit (.thenX (.loopX (.blockX (.thenN (.pr [1, 4] [1, 300000] [] [(1, qp 1 0), (4, qs ((((((r2 ++ r3) ++ r4) ++ r6) ++ r7) ++ r8) ++ r9))] (W7 a0) ?_)))))))))))))))))))
         exact F21_j21_ok n a0 ((((((r2 ++ r3) ++ r4) ++ r6) ++ r7) ++ r8) ++ r9)
        ·exact SimI.vac rfl
def F50_e : ByteArray → PV × List Ob := fun r => (.one (ls r), [])
def F50 (n : Nat) (a0 : Int) : Option ByteArray :=
 some (mkStr [IntKind.wrap .u8 a0, IntKind.wrap .u8 (shrI .u32 a0 8), IntKind.wrap .u8 (shrI .u32 a0 16), IntKind.wrap .u8 (shrI .u32 a0 24)])
theorem F50_ok (n : Nat) (a0 : Int) : ∀ r, F50 n a0 = some r → D 50 [.one (li .u32 a0)] [] = some (F50_e r) := by
 refine fn_to (D := D) (n := n + 8) (nt := 16) (rs := pc50_r) (c := p50c5) (L := [(0, .one (li .u32 a0))]) (M := []) (k := 0) rfl rfl rfl rfl rfl rfl rfl ?_
 unfold F50
 exact Sim.sr 1 [(2, qs be)] [] (.st 12 [(14, .one (vw (codI .u8) [IntKind.wrap .u8 a0, IntKind.wrap .u8 (shrI .u32 a0 8), IntKind.wrap .u8 (shrI .u32 a0 16), IntKind.wrap .u8 (shrI .u32 a0 24)])), (13, .one (li .u8 (iw .u8 (shrI .u32 a0 24)))), (12, .one (li .u32 (shrI .u32 a0 24))), (11, .one (li .u32 a0)), (10, .one (li .u8 (iw .u8 (shrI .u32 a0 16)))), (9, .one (li .u32 (shrI .u32 a0 16))), (8, .one (li .u32 a0)), (7, .one (li .u8 (iw .u8 (shrI .u32 a0 8)))), (6, .one (li .u32 (shrI .u32 a0 8))), (5, .one (li .u32 a0)), (4, .one (li .u8 (iw .u8 a0))), (3, .one (li .u32 a0))] [] (.se ⟨some 15, .b2s 14, none, []⟩ [(15, qs (mkStr [IntKind.wrap .u8 a0, IntKind.wrap .u8 (shrI .u32 a0 8), IntKind.wrap .u8 (shrI .u32 a0 16), IntKind.wrap .u8 (shrI .u32 a0 24)]))] [] (pe (eff_b2s (l := [IntKind.wrap .u8 a0, IntKind.wrap .u8 (shrI .u32 a0 8), IntKind.wrap .u8 (shrI .u32 a0 16), IntKind.wrap .u8 (shrI .u32 a0 24)]) (by kernel_rfl))) (.rd 1 [(2, qs (mkStr [IntKind.wrap .u8 a0, IntKind.wrap .u8 (shrI .u32 a0 8), IntKind.wrap .u8 (shrI .u32 a0 16), IntKind.wrap .u8 (shrI .u32 a0 24)]))] [] (.thenN (.ret .fn)))))
def F51_e : Int → PV × List Ob := fun r => (.one (li .u32 r), [])
def F51_l15 (n : Nat) (i6 : Int) (rec_l7 : Int → Int → Option Int) : Nat → Int → Int → Option Int
 | 0, _, _ => none
 | m + 1, i13, i14 =>
  if decide (i14 < 8) then
   if (bitsI .and .u32 i13 1) == 1 then
    (F51_l15 n i6 rec_l7 m) (bitsI .xor .u32 (shrI .u32 i13 1) 3988292384) (IntKind.wrap .i64 (i14 + 1))
   else
    (F51_l15 n i6 rec_l7 m) (shrI .u32 i13 1) (IntKind.wrap .i64 (i14 + 1))
  else
   rec_l7 i13 (IntKind.wrap .i64 (i6 + 1))
theorem F51_l15_ok (n : Nat) (a0 : ByteArray) (i6 : Int) (rec_l7 : Int → Int → Option Int) (m_l7 : Nat) (ih_l7 : ∀ (i5 i6 : Int), SimL Try.prog D (n + 8) m_l7 p51c38 (W93 i5 a0 i6) [] (rec_l7 i5 i6) (QB 0 (QT Try.prog D (n + 8) p51c44 (QF false pc51_r 0 F51_e)))) : ∀ (m : Nat) (i13 i14 : Int), SimL Try.prog D (n + 8) m p51c28 [(3, .one (li .u32 i13)), (8, .one (vw (codI .u8) (bytesL a0))), (9, qj ((bytesL a0).length : Int)), (10, qj i6), (18, qj i14)] [] (F51_l15 n i6 rec_l7 m i13 i14) (QB 2 (QB 1 (QT Try.prog D (n + 8) p51c35 (QL Try.prog D (n + 8) m_l7 p51c38 (QB 0 (QT Try.prog D (n + 8) p51c44 (QF false pc51_r 0 F51_e))))))) := by
 intro m_l15
 induction m_l15 with
 | zero => intro i13 i14; exact SimL.zero'  rfl
 | succ m_l15 ih_l15 =>
  intro i13 i14
  refine SimL.succ ?_
  unfold F51_l15
  refine Sim.seq (.rg [(3, .one (li .u32 i13)), (8, .one (vw (codI .u8) (bytesL a0))), (9, qj ((bytesL a0).length : Int)), (10, qj i6), (18, qj i14)] [] (.rd 1 [(19, qb (decide (i14 < 8)))] [] (.thenN (.seq (.cd _ ?_ ?_)))))
  ·refine Sim.skip (.thenN (.seq (.block (.sr 3 (rp [6, 21] (.one (li .u32 (bitsI .and .u32 i13 1))) ++ [(20, .one (li .u32 i13))]) [] (.sr 3 (rp [3, 23] (.one (li .u32 (shrI .u32 i13 1))) ++ [(22, .one (li .u32 i13))]) [] (.sr 2 [(25, qb ((bitsI .and .u32 i13 1) == 1)), (24, .one (li .u32 (bitsI .and .u32 i13 1)))] [] (.cd _ ?_ ?_)))))))
   ·refine Sim.region0 (.rd 3 (rp [3, 27] (.one (li .u32 (bitsI .xor .u32 (shrI .u32 i13 1) 3988292384))) ++ [(26, .one (li .u32 (shrI .u32 i13 1)))]) [] (.blockN (.thenN (.region0 (.rd 2 (rp [18, 28] (qj (iw .i64 (i14 + 1)))) [] (.loopN (.pr [3, 8, 9, 10, 18] [] [] [(3, .one (li .u32 (bitsI .xor .u32 (shrI .u32 i13 1) 3988292384))), (8, .one (vw (codI .u8) (bytesL a0))), (9, qj ((bytesL a0).length : Int)), (10, qj i6), (18, qj (iw .i64 (i14 + 1)))] [] ?_)))))))
    exact ih_l15 (bitsI .xor .u32 (shrI .u32 i13 1) 3988292384) (iw .i64 (i14 + 1))
   ·refine Sim.skip (.blockN (.thenN (.region0 (.rd 2 (rp [18, 28] (qj (iw .i64 (i14 + 1)))) [] (.loopN (.pr [3, 8, 9, 10, 18] [] [] [(3, .one (li .u32 (shrI .u32 i13 1))), (8, .one (vw (codI .u8) (bytesL a0))), (9, qj ((bytesL a0).length : Int)), (10, qj i6), (18, qj (iw .i64 (i14 + 1)))] [] ?_))))))
    exact ih_l15 (shrI .u32 i13 1) (iw .i64 (i14 + 1))
  ·refine Sim.exit (.thenX (.loopX (.blockX (.blockN (.thenN (.region0 (.rd 2 (rp [10, 29] (qj (iw .i64 (i6 + 1)))) [] (.loopN (.pr [3, 8, 9, 10] [] [] [(3, .one (li .u32 i13)), (8, .one (vw (codI .u8) (bytesL a0))), (9, qj ((bytesL a0).length : Int)), (10, qj (iw .i64 (i6 + 1)))] [] ?_)))))))))
   exact ih_l7 i13 (iw .i64 (i6 + 1))
def F51_l7 (n : Nat) (a0 : ByteArray) : Nat → Int → Int → Option Int
 | 0, _, _ => none
 | m + 1, i5, i6 =>
  if decide (i6 < ((bytesL a0).length : Int)) then
   (ix (bytesL a0) i6).bind fun (x8 : Int) =>
   F51_l15 n i6 (F51_l7 n a0 m) (n + 8) (bitsI .xor .u32 i5 (IntKind.wrap .u32 x8)) 0
  else
   some (bitsI .xor .u32 i5 4294967295)
theorem F51_l7_ok (n : Nat) (a0 : ByteArray) : ∀ (m : Nat) (i5 i6 : Int), SimL Try.prog D (n + 8) m p51c38 (W93 i5 a0 i6) [] (F51_l7 n a0 m i5 i6) (QB 0 (QT Try.prog D (n + 8) p51c44 (QF false pc51_r 0 F51_e))) := by
 intro m_l7
 induction m_l7 with
 | zero => intro i5 i6; exact SimL.zero'  rfl
 | succ m_l7 ih_l7 =>
  intro i5 i6
  refine SimL.succ ?_
  unfold F51_l7
  refine Sim.seq (.rg (W93 i5 a0 i6) [] (.rd 1 [(11, qb (decide (i6 < ((bytesL a0).length : Int))))] [] (.thenN (.seq (.cd _ ?_ ?_)))))
  ·refine Sim.skip (.thenN (.seq (.block (.seq (.region0 (.bn ⟨some 12, .iaddrS 1 8 10, none, []⟩ (fun x8 => [(12, .one (.eptr ((codI .u8).enc x8) 0))]) (fun x8 => []) (fun x8 hr => pe (ei (c := (codI .u8)) (k := .i64) hr)) (fun x8 => ?_)))))))
   refine SimI.rd 2 (rp [5, 13] (.one (li .u8 x8))) [] (.thenN (.sr 5 (rp [3, 17] (.one (li .u32 (bitsI .xor .u32 i5 (iw .u32 x8)))) ++ [(16, .one (li .u32 (iw .u32 x8))), (15, .one (li .u8 x8)), (14, .one (li .u32 i5))]) [] (.sr 1 [(18, qj 0)] [] (.block (.loop (.pr [3, 8, 9, 10, 18] [] [] [(3, .one (li .u32 (bitsI .xor .u32 i5 (iw .u32 x8)))), (8, .one (vw (codI .u8) (bytesL a0))), (9, qj ((bytesL a0).length : Int)), (10, qj i6), (18, qj 0)] [] ?_))))))
   exact F51_l15_ok n a0 i6 (F51_l7 n a0 m_l7) m_l7 ih_l7 (n + 8) (bitsI .xor .u32 i5 (iw .u32 x8)) 0
  ·exact Sim.exit (.thenX (.loopX (.blockX (.thenN (.sr 3 (rp [2, 31] (.one (li .u32 (bitsI .xor .u32 i5 4294967295))) ++ [(30, .one (li .u32 i5))]) [] (.ret .fn))))))
def F51 (n : Nat) (a0 : ByteArray) : Option Int :=
 F51_l7 n a0 (n + 8) 4294967295 0
theorem F51_ok (n : Nat) (a0 : ByteArray) : ∀ r, F51 n a0 = some r → D 51 [.one (ls a0)] [] = some (F51_e r) := by
 refine fn_to (D := D) (n := n + 8) (nt := 32) (rs := pc51_r) (c := p51c47) (L := [(0, qs a0)]) (M := []) (k := 0) rfl rfl rfl rfl rfl rfl rfl ?_
 unfold F51
 refine Sim.sr 1 [(2, .one (li .u32 0))] [] (.sr 1 [(3, .one (li .u32 4294967295))] [] (.seq (.st 1 [(7, qs a0)] [] (.se ⟨some 8, .s2b 5 7, none, []⟩ [(8, .one (vw (codI .u8) (bytesL a0)))] [] (pe (eff_s2b (s := a0) (by kernel_rfl))) (.rd 2 [(10, qj 0), (9, qj ((bytesL a0).length : Int))] [] (.thenN (.block (.loop (.pr [3, 8, 9, 10] [] [] [(3, .one (li .u32 4294967295)), (8, .one (vw (codI .u8) (bytesL a0))), (9, qj ((bytesL a0).length : Int)), (10, qj 0)] [] ?_)))))))))
 exact F51_l7_ok n a0 (n + 8) 4294967295 0
def F23_e : ByteArray → PV × List Ob := fun r => (.one (ls r), [])
def F23 (n : Nat) (a0 : ByteArray) : Option ByteArray :=
 (F49 n a0).bind fun (r1 : ByteArray) =>
 (F51 n a0).bind fun (r2 : Int) =>
 (F50 n r2).bind fun (r3 : ByteArray) =>
 if r1.size + r3.size ≤ 9223372036854775807 then
  some (r1 ++ r3)
 else none
theorem F23_ok (n : Nat) (a0 : ByteArray) : ∀ r, F23 n a0 = some r → D 23 [.one (ls a0)] [] = some (F23_e r) := by
 refine fn_to (D := D) (n := n + 8) (nt := 9) (rs := pc23_r) (c := p23c5) (L := [(0, qs a0)]) (M := []) (k := 0) rfl rfl rfl rfl rfl rfl rfl ?_
 unfold F23
 refine Sim.sr 1 [(2, qs be)] [] (.st 1 [(3, qs a0)] [] (.cl 4 true [[]] 49 [3] none (fun r1 => qs r1) [qs a0] (F49_ok _ _) (fun r1 => ?_)))
 refine SimI.rn 1 [(5, qs a0)] [] (.cl 6 true [[]] 51 [5] none (fun r2 => .one (li .u32 r2)) [qs a0] (F51_ok _ _) (fun r2 => ?_))
 refine SimI.cl 7 true [[]] 50 [6] none _ _ (F50_ok _ _) (fun r3 => ?_)
 exact SimI.gp 8 (.bin .add 9 false false) [4, 7] none [] (fun hc => pr_addS _ _ _ r1 r3 hc) (.rd 1 [(2, qs (r1 ++ r3))] [] (.thenN (.ret .fn)))
def F9_e : (ByteArray × Int) → PV × List Ob := fun r => (.tup [.one (ls r.1), .one (li .i64 r.2)], [])
def F9_l27 (n : Nat) (a0 : Note) : Nat → Int → (List Int) → Option (ByteArray × Int)
 | 0, _, _ => none
 | m + 1, i25, l26 =>
  if decide (i25 < ((a0.Watch).length : Int)) then
   (ix a0.Watch i25).bind fun (x28 : Command) =>
   (F21 n x28).bind fun (r29 : (ByteArray × Int)) =>
   (bldAdd l26 r29.1).bind fun (l30 : (List Int)) =>
   (F9_l27 n a0 m) (IntKind.wrap .i64 (i25 + 1)) l30
  else
   (bldLen l26).bind fun (i31 : Int) =>
   if decide ((40000 : Int) < i31) then
    some (ByteArray.empty, 13)
   else
    (bldStr l26).bind fun (s32 : ByteArray) =>
    (F23 n s32).bind fun (r33 : ByteArray) =>
    some (r33, 0)
theorem F9_l27_ok (n : Nat) (a0 : Note) : ∀ (m : Nat) (i25 : Int) (l26 : (List Int)), SimL Try.prog D (n + 8) m p9c44 [(8, qp 8 0), (75, .one (vw Command.cod a0.Watch)), (76, qj ((a0.Watch).length : Int)), (77, qj i25)] (W34 l26) (F9_l27 n a0 m i25 l26) (QB 2 (QT Try.prog D (n + 8) p9c58 (QF false pc9_r 0 F9_e))) := by
 intro m_l27
 induction m_l27 with
 | zero => intro i25 l26; exact SimL.zero'  rfl
 | succ m_l27 ih_l27 =>
  intro i25 l26
  refine SimL.succ ?_
  unfold F9_l27
  refine Sim.seq (.rg [(8, qp 8 0), (75, .one (vw Command.cod a0.Watch)), (76, qj ((a0.Watch).length : Int)), (77, qj i25)] (W34 l26) (.rd 1 [(78, qb (decide (i25 < ((a0.Watch).length : Int))))] [] (.thenN (.seq (.cd _ ?_ ?_)))))
  ·refine Sim.skip (.thenN (.seq (.block (.seq (.region0 (.bn ⟨some 79, .iaddrS 22 75 77, none, []⟩ (fun x28 => [(79, .one (.eptr (Command.cod.enc x28) 0))]) (fun x28 => []) (fun x28 hr => pe (ei (c := Command.cod) (k := .i64) hr)) (fun x28 => ?_)))))))
   refine SimI.rd 3 [(12, qp 12 0), (80, .agg (Command.cells x28))] [(12, some (.cells (Command.cells x28))), (12, some (.cells W0))] (.thenN (.st 1 [(82, .agg (Command.cells x28))] [] (.cl 83 true [[]] 21 [82] none (fun r29 => .tup [qs r29.1, qj r29.2]) [.agg (Command.cells x28)] (F21_ok _ _) (fun r29 => ?_))))
   refine SimI.rd 5 [(14, qj r29.2), (13, qs r29.1), (85, qj r29.2), (84, qs r29.1), (81, .tup [qs r29.1, qj r29.2])] [] (.thenN (.region0 (.rn 1 [(86, qs r29.1)] [] (.bn ⟨some 87, .gcall false false W35 [[(1, 1)], []] 19 [8, 86], none, []⟩ (fun l30 => [(87, .tup [qj (r29.1.size : Int), .one (.val (.nilIface))])]) (fun l30 => (W32 l30)) (fun l30 hr => pe (gq (ks := [8, 400064]) (ARGS := [qp 8 0, qs r29.1]) (D_add (a := .ptr 1000000 0) (by kernel_rfl) (l := l26) (s := r29.1) l30 hr))) (fun l30 => ?_)))))
   refine SimI.dn (.blockN (.thenN (.region0 (.rd 2 (rp [77, 88] (qj (iw .i64 (i25 + 1)))) [] (.loopN (.pr [8, 75, 76, 77] [1, 8, 12, 400064] [] [(8, qp 8 0), (75, .one (vw Command.cod a0.Watch)), (76, qj ((a0.Watch).length : Int)), (77, qj (iw .i64 (i25 + 1)))] (W34 l30) ?_))))))
   exact ih_l27 (iw .i64 (i25 + 1)) l30
  ·refine Sim.exit (.thenX (.loopX (.blockX (.thenN (.seq (.seq (.region0 (.bn ⟨some 89, .gcall false false W35 [[(1, 1)]] 22 [8], none, []⟩ (fun i31 => [(89, qj i31)]) (fun i31 => [(8, some (.tcells 64 [.ptr 8 0, .osl 400064 (0 + 0) 0 (l26).length])), (400064, some (.arr 5 (codI .u8).sz (0 + 0) (l26).length (getOf (codI .u8) l26)))]) (fun i31 hr => pe (gq (ks := [8, 400064]) (ARGS := [qp 8 0]) (D_len (a := .ptr 1000000 0) (by kernel_rfl) (l := l26) i31 hr))) (fun i31 => ?_)))))))))
   refine SimI.rd 1 [(90, qb (decide ((40000 : Int) < i31)))] [] (.thenN (.cd _ ?_ ?_))
   ·exact Sim.sr 2 [(3, qj 13), (2, qs be)] [] (.ret (.thenR .fn))
   ·refine Sim.skip (.thenN (.seq (.region0 (.bn ⟨some 91, .gcall false false W35 [[(1, 1)]] 24 [8], none, []⟩ (fun s32 => [(91, qs s32)]) (fun s32 => [(8, some (.tcells 64 [.ptr 8 0, .osl 400064 ((0 + 0) + 0) 0 (l26).length])), (400064, some (.arr 5 (codI .u8).sz ((0 + 0) + 1) (([] : List Int)).length (getOf (codI .u8) ([] : List Int))))]) (fun s32 hr => pe (gq (ks := [8, 400064]) (ARGS := [qp 8 0]) (D_str (a := .ptr 1000000 0) (by kernel_rfl) (l := l26) s32 hr))) (fun s32 => ?_)))))
    refine SimI.cl 92 true [[]] 23 [91] none _ _ (F23_ok _ _) (fun r33 => ?_)
    exact SimI.rd 2 [(3, qj 0), (2, qs r33)] [] (.thenN (.ret .fn))
def F9_l14 (n : Nat) (a0 : Note) : Nat → Int → (List Int) → Option (ByteArray × Int)
 | 0, _, _ => none
 | m + 1, i12, l13 =>
  if decide (i12 < ((a0.Hands).length : Int)) then
   (ix a0.Hands i12).bind fun (x15 : Hand) =>
   (F20 n (IntKind.wrap .u64 x15.Cell)).bind fun (r16 : ByteArray) =>
   (F20 n (IntKind.wrap .u64 x15.To)).bind fun (r17 : ByteArray) =>
   if r16.size + r17.size ≤ 9223372036854775807 then
    (bldAdd l13 (r16 ++ r17)).bind fun (l18 : (List Int)) =>
    (F9_l14 n a0 m) (IntKind.wrap .i64 (i12 + 1)) l18
   else none
  else
   (F20 n (IntKind.wrap .u64 ((a0.Watch).length : Int))).bind fun (r19 : ByteArray) =>
   (bldAdd l13 r19).bind fun (l20 : (List Int)) =>
   F9_l27 n a0 (n + 8) 0 l20
theorem F9_l14_ok (n : Nat) (a0 : Note) : ∀ (m : Nat) (i12 : Int) (l13 : (List Int)), SimL Try.prog D (n + 8) m p9c25 [(1, qp 1 0), (8, qp 8 0), (51, .one (vw Hand.cod a0.Hands)), (52, qj ((a0.Hands).length : Int)), (53, qj i12)] [(1, some (.cells (W18 a0))), (8, some (.tcells 64 (W154 l13))), (400064, some (.arr 5 (codI .u8).sz 0 (l13).length (getOf (codI .u8) l13)))] (F9_l14 n a0 m i12 l13) (QB 0 (QT Try.prog D (n + 8) p9c60 (QF false pc9_r 0 F9_e))) := by
 intro m_l14
 induction m_l14 with
 | zero => intro i12 l13; exact SimL.zero'  rfl
 | succ m_l14 ih_l14 =>
  intro i12 l13
  refine SimL.succ ?_
  unfold F9_l14
  refine Sim.seq (.rg [(1, qp 1 0), (8, qp 8 0), (51, .one (vw Hand.cod a0.Hands)), (52, qj ((a0.Hands).length : Int)), (53, qj i12)] [(1, some (.cells (w0 a0))), (8, some (.tcells 64 (W154 l13))), (400064, some (.arr 5 (codI .u8).sz 0 (l13).length (getOf (codI .u8) l13)))] (.rd 1 [(54, qb (decide (i12 < ((a0.Hands).length : Int))))] [] (.thenN (.seq (.cd _ ?_ ?_)))))
  ·refine Sim.skip (.thenN (.seq (.block (.seq (.region0 (.bn ⟨some 55, .iaddrS 2 51 53, none, []⟩ (fun x15 => [(55, .one (.eptr (Hand.cod.enc x15) 0))]) (fun x15 => []) (fun x15 hr => pe (ei (c := Hand.cod) (k := .i64) hr)) (fun x15 => ?_)))))))
   refine SimI.rd 3 [(10, qp 10 0), (56, .agg [lj x15.Cell, lj x15.To])] [(10, some (.cells [lj x15.Cell, lj x15.To])), (10, some (.cells [lj 0, lj 0]))] (.thenN (.region0 (.rn 3 [(59, .one (li .u64 (iw .u64 x15.Cell))), (58, qj x15.Cell), (57, qp 10 0)] [] (.cm 60 false [[]] 20 [59] none [(59, .imm)] (F20_ok _ _) (fun r16 => ?_)))))
   refine SimI.rn 3 [(63, .one (li .u64 (iw .u64 x15.To))), (62, qj x15.To), (61, qp 10 1)] [] (.cm 64 false [[]] 20 [63] none [(63, .imm)] (F20_ok _ _) (fun r17 => ?_))
   refine SimI.gp 65 (.bin .add 9 false false) [60, 64] none [(60, .imm), (64, .imm)] (fun hc => pr_addS _ _ _ r16 r17 hc) (.bn ⟨some 66, .gcall false false W35 [[(1, 1)], []] 19 [8, 65], none, [(8, .at_ 8 0), (65, .imm)]⟩ (fun l18 => [(66, .tup [qj ((r16 ++ r17).size : Int), .one (.val (.nilIface))])]) (fun l18 => (W32 l18)) (fun l18 hr => pe (gq (ks := [8, 400064]) (ARGS := [qp 8 0, qs (r16 ++ r17)]) (D_add (a := .ptr 1000000 0) (by kernel_rfl) (l := l13) (s := r16 ++ r17) l18 hr))) (fun l18 => ?_))
   refine SimI.dn (.blockN (.thenN (.region0 (.rd 2 (rp [53, 67] (qj (iw .i64 (i12 + 1)))) [] (.loopN (.pr [1, 8, 51, 52, 53] [1, 8, 10, 400064] [] [(1, qp 1 0), (8, qp 8 0), (51, .one (vw Hand.cod a0.Hands)), (52, qj ((a0.Hands).length : Int)), (53, qj (iw .i64 (i12 + 1)))] [(1, some (.cells (w0 a0))), (8, some (.tcells 64 (W154 l18))), (400064, some (.arr 5 (codI .u8).sz 0 (l18).length (getOf (codI .u8) l18)))] ?_))))))
   exact ih_l14 (iw .i64 (i12 + 1)) l18
  ·refine Sim.exit (.thenX (.loopX (.blockX (.thenN (.st 4 [(71, .one (li .u64 (iw .u64 ((a0.Watch).length : Int)))), (70, qj ((a0.Watch).length : Int)), (69, .one (vw Command.cod a0.Watch)), (68, qp 1 5)] [] (.cl 72 true [[]] 20 [71] none (fun r19 => qs r19) [.one (li .u64 (iw .u64 ((a0.Watch).length : Int)))] (F20_ok _ _) (fun r19 => ?_)))))))
   refine SimI.bn ⟨some 73, .gcall false false W35 [[(1, 1)], []] 19 [8, 72], none, []⟩ (fun l20 => [(73, .tup [qj (r19.size : Int), .one (.val (.nilIface))])]) (fun l20 => (W32 l20)) (fun l20 hr => pe (gq (ks := [8, 400064]) (ARGS := [qp 8 0, qs r19]) (D_add (a := .ptr 1000000 0) (by kernel_rfl) (l := l13) (s := r19) l20 hr))) (fun l20 => ?_)
   refine SimI.dn (.thenN (.seq (.sr 4 [(77, qj 0), (76, qj ((a0.Watch).length : Int)), (75, .one (vw Command.cod a0.Watch)), (74, qp 1 5)] [] (.block (.loop (.pr [8, 75, 76, 77] [1, 8, 12, 400064] [] [(8, qp 8 0), (75, .one (vw Command.cod a0.Watch)), (76, qj ((a0.Watch).length : Int)), (77, qj 0)] (W34 l20) ?_))))))
   exact F9_l27_ok n a0 (n + 8) 0 l20
def F9 (n : Nat) (a0 : Note) : Option (ByteArray × Int) :=
 (F11 n a0 4).bind fun (r1 : Bool) =>
 if !(r1) then
  some (ByteArray.empty, 11)
 else
  (F18 n a0.Moved).bind fun (r2 : (ByteArray × Int)) =>
  (F18 n a0.Given).bind fun (r3 : (ByteArray × Int)) =>
  (F20 n (IntKind.wrap .u64 a0.From)).bind fun (r4 : ByteArray) =>
  (F20 n (IntKind.wrap .u64 a0.Beat)).bind fun (r5 : ByteArray) =>
  if r4.size + r5.size ≤ 9223372036854775807 then
   if (r4 ++ r5).size + r2.1.size ≤ 9223372036854775807 then
    if ((r4 ++ r5) ++ r2.1).size + r3.1.size ≤ 9223372036854775807 then
     (F20 n (IntKind.wrap .u64 ((a0.Hands).length : Int))).bind fun (r6 : ByteArray) =>
     if (((r4 ++ r5) ++ r2.1) ++ r3.1).size + r6.size ≤ 9223372036854775807 then
      (bldAdd ([] : List Int) ((((r4 ++ r5) ++ r2.1) ++ r3.1) ++ r6)).bind fun (l7 : (List Int)) =>
      F9_l14 n a0 (n + 8) 0 l7
     else none
    else none
   else none
  else none
theorem F9_ok (n : Nat) (a0 : Note) : ∀ r, F9 n a0 = some r → D 9 [.agg [li .i64 a0.From, li .i64 a0.Beat, vw Thing.cod a0.Moved, vw Hand.cod a0.Hands, vw Thing.cod a0.Given, vw Command.cod a0.Watch]] [] = some (F9_e r) := by
 refine fn_to (D := D) (n := n + 8) (nt := 93) (rs := pc9_r) (c := p9c67) (L := [(0, .agg (w0 a0))]) (M := []) (k := 0) rfl rfl rfl rfl rfl rfl rfl ?_
 unfold F9
 refine Sim.sr 3 W132 [(1, some (.cells (w0 a0)))] (.seq (.st 1 [(15, .agg (w0 a0))] [] (.cl 16 true [[(2, 11), (3, 2), (4, 11), (5, 22)], []] 11 [15, kk 4] none (fun r1 => qb r1) [.agg (w0 a0), qj 4] (F11_ok _ _ _) (fun r1 => ?_))))
 refine SimI.rd 1 [(17, qb (!(r1)))] [] (.thenN (.cd _ ?_ ?_))
 ·exact Sim.sr 2 [(3, qj 11), (2, qs be)] [] (.ret (.thenR .fn))
 ·refine Sim.skip (.thenN (.st 2 [(20, .one (vw Thing.cod a0.Moved)), (19, qp 1 2)] [] (.cl 21 true [[(0, 11)]] 18 [20] none (fun r2 => .tup [qs r2.1, qj r2.2]) [.one (vw Thing.cod a0.Moved)] (F18_ok _ _) (fun r2 => ?_))))
  refine SimI.rd 5 [(5, qj r2.2), (4, qs r2.1), (23, qj r2.2), (22, qs r2.1), (18, .tup [qs r2.1, qj r2.2])] [] (.thenN (.st 2 [(26, .one (vw Thing.cod a0.Given)), (25, qp 1 4)] [] (.cl 27 true [[(0, 11)]] 18 [26] none (fun r3 => .tup [qs r3.1, qj r3.2]) [.one (vw Thing.cod a0.Given)] (F18_ok _ _) (fun r3 => ?_))))
  refine SimI.rd 5 [(7, qj r3.2), (6, qs r3.1), (29, qj r3.2), (28, qs r3.1), (24, .tup [qs r3.1, qj r3.2])] [] (.thenN (.sr 1 [(8, qp 8 0)] [(8, some (.tcells 64 [.val (.pointer none), .osl 400064 0 0 (([] : List Int)).length])), (400064, some (.arr 5 (codI .u8).sz 0 (([] : List Int)).length (getOf (codI .u8) ([] : List Int))))] (.st 3 [(32, .one (li .u64 (iw .u64 a0.From))), (31, qj a0.From), (30, qp 1 0)] [] (.cm 33 false [[]] 20 [32] none [(32, .imm)] (F20_ok _ _) (fun r4 => ?_)))))
  refine SimI.rn 3 [(36, .one (li .u64 (iw .u64 a0.Beat))), (35, qj a0.Beat), (34, qp 1 1)] [] (.cm 37 false [[]] 20 [36] none [(36, .imm)] (F20_ok _ _) (fun r5 => ?_))
  refine SimI.gp 38 (.bin .add 9 false false) [33, 37] none [(33, .imm), (37, .imm)] (fun hc => pr_addS _ _ _ r4 r5 hc) (.rn 1 [(39, qs r2.1)] [] (.gp 40 (.bin .add 9 false false) [38, 39] none [(38, .imm), (39, .imm)] (fun hc => pr_addS _ _ _ (r4 ++ r5) r2.1 hc) (.rn 1 [(41, qs r3.1)] [] (.gp 42 (.bin .add 9 false false) [40, 41] none [(40, .imm), (41, .imm)] (fun hc => pr_addS _ _ _ ((r4 ++ r5) ++ r2.1) r3.1 hc) (.rn 4 [(46, .one (li .u64 (iw .u64 ((a0.Hands).length : Int)))), (45, qj ((a0.Hands).length : Int)), (44, .one (vw Hand.cod a0.Hands)), (43, qp 1 3)] [] (.cm 47 false [[]] 20 [46] none [(46, .imm)] (F20_ok _ _) (fun r6 => ?_)))))))
  refine SimI.gp 48 (.bin .add 9 false false) [42, 47] none [(42, .imm), (47, .imm)] (fun hc => pr_addS _ _ _ (((r4 ++ r5) ++ r2.1) ++ r3.1) r6 hc) (.bn ⟨some 49, .gcall false false W35 [[(1, 1)], []] 19 [8, 48], none, [(8, .at_ 8 0), (48, .imm)]⟩ (fun l7 => [(49, .tup [qj (((((r4 ++ r5) ++ r2.1) ++ r3.1) ++ r6).size : Int), .one (.val (.nilIface))])]) (fun l7 => (W32 l7)) (fun l7 hr => pe (gq (ks := [8, 400064]) (ARGS := [qp 8 0, qs ((((r4 ++ r5) ++ r2.1) ++ r3.1) ++ r6)]) (D_add (a := .val (.pointer none)) (by kernel_rfl) (l := ([] : List Int)) (s := (((r4 ++ r5) ++ r2.1) ++ r3.1) ++ r6) l7 hr))) (fun l7 => ?_))
  refine SimI.dn (.thenN (.seq (.sr 4 [(53, qj 0), (52, qj ((a0.Hands).length : Int)), (51, .one (vw Hand.cod a0.Hands)), (50, qp 1 3)] [] (.block (.loop (.pr [1, 8, 51, 52, 53] [1, 8, 10, 400064] [] [(1, qp 1 0), (8, qp 8 0), (51, .one (vw Hand.cod a0.Hands)), (52, qj ((a0.Hands).length : Int)), (53, qj 0)] [(1, some (.cells (w0 a0))), (8, some (.tcells 64 (W154 l7))), (400064, some (.arr 5 (codI .u8).sz 0 (l7).length (getOf (codI .u8) l7)))] ?_))))))
  exact F9_l14_ok n a0 (n + 8) 0 l7
def F37_e : Bool → PV × List Ob := fun r => (.one (lb r), [])
def F37_l4 (n : Nat) (a0 a1 : (List Thing)) : Nat → Int → Option Bool
 | 0, _ => none
 | m + 1, i3 =>
  if decide (i3 < ((a0).length : Int)) then
   (ix a0 i3).bind fun (x5 : Thing) =>
   (ix a1 i3).bind fun (x6 : Thing) =>
   if !(Thing.eqb x5 x6) then
    some false
   else
    (F37_l4 n a0 a1 m) (IntKind.wrap .i64 (i3 + 1))
  else
   some true
theorem F37_l4_ok (n : Nat) (a0 a1 : (List Thing)) : ∀ (m : Nat) (i3 : Int), SimL Try.prog D (n + 8) m p37c27 [(0, .one (vw Thing.cod a0)), (1, .one (vw Thing.cod a1)), (12, qj ((a0).length : Int)), (13, qj i3)] [] (F37_l4 n a0 a1 m i3) (QB 0 (QT Try.prog D (n + 8) p37c33 (QF false pc37_r 0 F37_e))) := by
 intro m_l4
 induction m_l4 with
 | zero => intro i3; exact SimL.zero'  rfl
 | succ m_l4 ih_l4 =>
  intro i3
  refine SimL.succ ?_
  unfold F37_l4
  refine Sim.seq (.rg [(0, .one (vw Thing.cod a0)), (1, .one (vw Thing.cod a1)), (12, qj ((a0).length : Int)), (13, qj i3)] [] (.rd 1 [(14, qb (decide (i3 < ((a0).length : Int))))] [] (.thenN (.seq (.cd _ ?_ ?_)))))
  ·refine Sim.skip (.thenN (.seq (.block (.sr 2 [(5, qj i3), (15, qj i3)] [] (.st 2 [(17, qj i3), (16, .one (vw Thing.cod a0))] [] (.bn ⟨some 18, .iaddrS 11 16 17, none, [(16, .imm), (17, .imm)]⟩ (fun x5 => [(18, .one (.eptr (Thing.cod.enc x5) 0))]) (fun x5 => []) (fun x5 hr => pe (ei (c := Thing.cod) (k := .i64) hr)) (fun x5 => ?_)))))))
   refine SimI.rn 3 [(21, qj i3), (20, .one (vw Thing.cod a1)), (19, .agg (Thing.cells x5))] [] (.bn ⟨some 22, .iaddrS 11 20 21, none, [(20, .imm), (21, .imm)]⟩ (fun x6 => [(22, .one (.eptr (Thing.cod.enc x6) 0))]) (fun x6 => []) (fun x6 hr => pe (ei (c := Thing.cod) (k := .i64) hr)) (fun x6 => ?_))
   refine SimI.rn 1 [(23, .agg (Thing.cells x6))] [] (.se ⟨some 24, .prim (.bin .neq 55 false false) [19, 23], none, [(19, .imm), (23, .imm)]⟩ [(24, qb (!(Thing.eqb x5 x6)))] [] (pe (ep (Thing_eqn x5 x6 _ _))) (.dn (.thenN (.cd _ ?_ ?_))))
   ·exact Sim.sr 1 [(4, qb false)] [] (.ret (.blockR (.thenR (.loopR (.blockR (.thenR .fn))))))
   ·refine Sim.skip (.blockN (.thenN (.region0 (.rd 2 (rp [13, 25] (qj (iw .i64 (i3 + 1)))) [] (.loopN (.pr [0, 1, 12, 13] [] [] [(0, .one (vw Thing.cod a0)), (1, .one (vw Thing.cod a1)), (12, qj ((a0).length : Int)), (13, qj (iw .i64 (i3 + 1)))] [] ?_))))))
    exact ih_l4 (iw .i64 (i3 + 1))
  ·exact Sim.exit (.thenX (.loopX (.blockX (.thenN (.sr 1 [(4, qb true)] [] (.ret .fn))))))
def F37 (n : Nat) (a0 a1 : (List Thing)) : Option Bool :=
 if ((a0).length : Int) != ((a1).length : Int) then
  some false
 else
  F37_l4 n a0 a1 (n + 8) 0
theorem F37_ok (n : Nat) (a0 a1 : (List Thing)) : ∀ r, F37 n a0 a1 = some r → D 37 [.one (vw Thing.cod a0), .one (vw Thing.cod a1)] [] = some (F37_e r) := by
 refine fn_to (D := D) (n := n + 8) (nt := 26) (rs := pc37_r) (c := p37c36) (L := [(0, .one (vw Thing.cod a0)), (1, .one (vw Thing.cod a1))]) (M := []) (k := 0) rfl rfl rfl rfl rfl rfl rfl ?_
 unfold F37
 refine Sim.sr 1 [(4, qb false)] [] (.seq (.sr 5 (W119 a0 a1) [] (.cd _ ?_ ?_)))
 ·exact Sim.sr 1 [(4, qb false)] [] (.ret (.thenR .fn))
 ·refine Sim.skip (.thenN (.seq (.sr 3 [(13, qj 0), (12, qj ((a0).length : Int)), (11, .one (vw Thing.cod a0))] [] (.block (.loop (.pr [0, 1, 12, 13] [] [] [(0, .one (vw Thing.cod a0)), (1, .one (vw Thing.cod a1)), (12, qj ((a0).length : Int)), (13, qj 0)] [] ?_))))))
  exact F37_l4_ok n a0 a1 (n + 8) 0
def F40_e : Bool → PV × List Ob := fun r => (.one (lb r), [])
def F40_l4 (n : Nat) (a0 a1 : (List Thing)) : Nat → Int → Option Bool
 | 0, _ => none
 | m + 1, i3 =>
  if decide (i3 < ((a0).length : Int)) then
   (ix a0 i3).bind fun (x5 : Thing) =>
   (ix a1 i3).bind fun (x6 : Thing) =>
   if !(Thing.eqb x5 x6) then
    some false
   else
    (F40_l4 n a0 a1 m) (IntKind.wrap .i64 (i3 + 1))
  else
   some true
theorem F40_l4_ok (n : Nat) (a0 a1 : (List Thing)) : ∀ (m : Nat) (i3 : Int), SimL Try.prog D (n + 8) m p40c25 [(0, .one (vw Thing.cod a0)), (1, .one (vw Thing.cod a1)), (5, qj i3)] [] (F40_l4 n a0 a1 m i3) (QB 0 (QT Try.prog D (n + 8) p40c31 (QF false pc40_r 0 F40_e))) := by
 intro m_l4
 induction m_l4 with
 | zero => intro i3; exact SimL.zero'  rfl
 | succ m_l4 ih_l4 =>
  intro i3
  refine SimL.succ ?_
  unfold F40_l4
  refine Sim.seq (.seq (.rg [(0, .one (vw Thing.cod a0)), (1, .one (vw Thing.cod a1)), (5, qj i3)] [] (.rd 4 [(14, qb (decide (i3 < ((a0).length : Int)))), (13, qj ((a0).length : Int)), (12, .one (vw Thing.cod a0)), (11, qj i3)] [] (.thenN (.cd _ ?_ ?_)))))
  ·refine Sim.skip (.thenN (.seq (.block (.st 2 [(18, qj i3), (17, .one (vw Thing.cod a0))] [] (.bn ⟨some 19, .iaddrS 11 17 18, none, [(17, .imm), (18, .imm)]⟩ (fun x5 => [(19, .one (.eptr (Thing.cod.enc x5) 0))]) (fun x5 => []) (fun x5 hr => pe (ei (c := Thing.cod) (k := .i64) hr)) (fun x5 => ?_))))))
   refine SimI.rn 3 [(22, qj i3), (21, .one (vw Thing.cod a1)), (20, .agg (Thing.cells x5))] [] (.bn ⟨some 23, .iaddrS 11 21 22, none, [(21, .imm), (22, .imm)]⟩ (fun x6 => [(23, .one (.eptr (Thing.cod.enc x6) 0))]) (fun x6 => []) (fun x6 hr => pe (ei (c := Thing.cod) (k := .i64) hr)) (fun x6 => ?_))
   refine SimI.rn 1 [(24, .agg (Thing.cells x6))] [] (.se ⟨some 25, .prim (.bin .neq 55 false false) [20, 24], none, [(20, .imm), (24, .imm)]⟩ [(25, qb (!(Thing.eqb x5 x6)))] [] (pe (ep (Thing_eqn x5 x6 _ _))) (.dn (.thenN (.cd _ ?_ ?_))))
   ·exact Sim.sr 1 [(4, qb false)] [] (.ret (.blockR (.thenR (.loopR (.blockR (.thenR .fn))))))
   ·refine Sim.skip (.blockN (.thenN (.region0 (.rd 3 (rp [5, 16] (qj (iw .i64 (i3 + 1))) ++ [(15, qj i3)]) [] (.loopN (.pr [0, 1, 5] [] [] [(0, .one (vw Thing.cod a0)), (1, .one (vw Thing.cod a1)), (5, qj (iw .i64 (i3 + 1)))] [] ?_))))))
    exact ih_l4 (iw .i64 (i3 + 1))
  ·exact Sim.exit (.thenX (.loopX (.blockX (.thenN (.sr 1 [(4, qb true)] [] (.ret .fn))))))
def F40 (n : Nat) (a0 a1 : (List Thing)) : Option Bool :=
 if ((a0).length : Int) != ((a1).length : Int) then
  some false
 else
  F40_l4 n a0 a1 (n + 8) 0
theorem F40_ok (n : Nat) (a0 a1 : (List Thing)) : ∀ r, F40 n a0 a1 = some r → D 40 [.one (vw Thing.cod a0), .one (vw Thing.cod a1)] [] = some (F40_e r) := by
 refine fn_to (D := D) (n := n + 8) (nt := 26) (rs := pc40_r) (c := p40c34) (L := [(0, .one (vw Thing.cod a0)), (1, .one (vw Thing.cod a1))]) (M := []) (k := 0) rfl rfl rfl rfl rfl rfl rfl ?_
 unfold F40
 refine Sim.sr 1 [(4, qb false)] [] (.seq (.sr 5 (W119 a0 a1) [] (.cd _ ?_ ?_)))
 ·exact Sim.sr 1 [(4, qb false)] [] (.ret (.thenR .fn))
 ·refine Sim.skip (.thenN (.seq (.sr 1 [(5, qj 0)] [] (.block (.loop (.pr [0, 1, 5] [] [] [(0, .one (vw Thing.cod a0)), (1, .one (vw Thing.cod a1)), (5, qj 0)] [] ?_))))))
  exact F40_l4_ok n a0 a1 (n + 8) 0
def F13_e : Bool → PV × List Ob := fun r => (.one (lb r), [])
def F13_l12 (n : Nat) (a0 a1 : Note) : Nat → Int → Option Bool
 | 0, _ => none
 | m + 1, i11 =>
  if decide (i11 < ((a0.Watch).length : Int)) then
   (ix a0.Watch i11).bind fun (x13 : Command) =>
   (ix a1.Watch i11).bind fun (x14 : Command) =>
   if !(Command.eqb x13 x14) then
    some false
   else
    (F13_l12 n a0 a1 m) (IntKind.wrap .i64 (i11 + 1))
  else
   some true
theorem F13_l12_ok (n : Nat) (a0 a1 : Note) : ∀ (m : Nat) (i11 : Int), SimL Try.prog D (n + 8) m p13c45 [(2, qp 2 0), (3, qp 3 0), (6, qj i11)] [(2, some (.cells (W18 a0))), (3, some (.cells (W18 a1)))] (F13_l12 n a0 a1 m i11) (QB 2 (QT Try.prog D (n + 8) p13c51 (QF false pc13_r 0 F13_e))) := by
 intro m_l12
 induction m_l12 with
 | zero => intro i11; exact SimL.zero'  rfl
 | succ m_l12 ih_l12 =>
  intro i11
  refine SimL.succ ?_
  unfold F13_l12
  refine Sim.seq (.seq (.rg [(2, qp 2 0), (3, qp 3 0), (6, qj i11)] [(2, some (.cells (w0 a0))), (3, some (.cells (w0 a1)))] (.rd 5 [(75, qb (decide (i11 < ((a0.Watch).length : Int)))), (74, qj ((a0.Watch).length : Int)), (73, .one (vw Command.cod a0.Watch)), (72, qp 2 5), (71, qj i11)] [] (.thenN (.cd _ ?_ ?_)))))
  ·refine Sim.skip (.thenN (.seq (.block (.st 3 [(80, qj i11), (79, .one (vw Command.cod a0.Watch)), (78, qp 2 5)] [] (.bn ⟨some 81, .iaddrS 22 79 80, none, [(79, .imm), (80, .imm)]⟩ (fun x13 => [(81, .one (.eptr (Command.cod.enc x13) 0))]) (fun x13 => []) (fun x13 hr => pe (ei (c := Command.cod) (k := .i64) hr)) (fun x13 => ?_))))))
   refine SimI.rn 4 [(85, qj i11), (84, .one (vw Command.cod a1.Watch)), (83, qp 3 5), (82, .agg (Command.cells x13))] [] (.bn ⟨some 86, .iaddrS 22 84 85, none, [(84, .imm), (85, .imm)]⟩ (fun x14 => [(86, .one (.eptr (Command.cod.enc x14) 0))]) (fun x14 => []) (fun x14 hr => pe (ei (c := Command.cod) (k := .i64) hr)) (fun x14 => ?_))
   refine SimI.rn 1 [(87, .agg (Command.cells x14))] [] (.se ⟨some 88, .prim (.bin .neq 53 false false) [82, 87], none, [(82, .imm), (87, .imm)]⟩ [(88, qb (!(Command.eqb x13 x14)))] [] (pe (ep (Command_eqn x13 x14 _ _))) (.dn (.thenN (.cd _ ?_ ?_))))
   ·exact Sim.sr 1 [(4, qb false)] [] (.ret (.blockR (.thenR (.loopR (.blockR (.thenR .fn))))))
   ·refine Sim.skip (.blockN (.thenN (.region0 (.rd 3 (rp [6, 77] (qj (iw .i64 (i11 + 1))) ++ [(76, qj i11)]) [] (.loopN (.pr [2, 3, 6] [2, 3] [] [(2, qp 2 0), (3, qp 3 0), (6, qj (iw .i64 (i11 + 1)))] [(2, some (.cells (w0 a0))), (3, some (.cells (w0 a1)))] ?_))))))
    exact ih_l12 (iw .i64 (i11 + 1))
  ·exact Sim.exit (.thenX (.loopX (.blockX (.thenN (.sr 1 [(4, qb true)] [] (.ret .fn))))))
def F13_l6 (n : Nat) (a0 a1 : Note) : Nat → Int → Option Bool
 | 0, _ => none
 | m + 1, i5 =>
  if decide (i5 < ((a0.Hands).length : Int)) then
   (ix a0.Hands i5).bind fun (x7 : Hand) =>
   (ix a1.Hands i5).bind fun (x8 : Hand) =>
   if !(Hand.eqb x7 x8) then
    some false
   else
    (F13_l6 n a0 a1 m) (IntKind.wrap .i64 (i5 + 1))
  else
   F13_l12 n a0 a1 (n + 8) 0
theorem F13_l6_ok (n : Nat) (a0 a1 : Note) : ∀ (m : Nat) (i5 : Int), SimL Try.prog D (n + 8) m p13c25 [(2, qp 2 0), (3, qp 3 0), (5, qj i5)] [(2, some (.cells (W18 a0))), (3, some (.cells (W18 a1)))] (F13_l6 n a0 a1 m i5) (QB 0 (QT Try.prog D (n + 8) p13c52 (QF false pc13_r 0 F13_e))) := by
 intro m_l6
 induction m_l6 with
 | zero => intro i5; exact SimL.zero'  rfl
 | succ m_l6 ih_l6 =>
  intro i5
  refine SimL.succ ?_
  unfold F13_l6
  refine Sim.seq (.seq (.rg [(2, qp 2 0), (3, qp 3 0), (5, qj i5)] [(2, some (.cells (w0 a0))), (3, some (.cells (w0 a1)))] (.rd 5 [(57, qb (decide (i5 < ((a0.Hands).length : Int)))), (56, qj ((a0.Hands).length : Int)), (55, .one (vw Hand.cod a0.Hands)), (54, qp 2 3), (53, qj i5)] [] (.thenN (.cd _ ?_ ?_)))))
  ·refine Sim.skip (.thenN (.seq (.block (.st 3 [(62, qj i5), (61, .one (vw Hand.cod a0.Hands)), (60, qp 2 3)] [] (.bn ⟨some 63, .iaddrS 2 61 62, none, [(61, .imm), (62, .imm)]⟩ (fun x7 => [(63, .one (.eptr (Hand.cod.enc x7) 0))]) (fun x7 => []) (fun x7 hr => pe (ei (c := Hand.cod) (k := .i64) hr)) (fun x7 => ?_))))))
   refine SimI.rn 4 [(67, qj i5), (66, .one (vw Hand.cod a1.Hands)), (65, qp 3 3), (64, .agg [lj x7.Cell, lj x7.To])] [] (.bn ⟨some 68, .iaddrS 2 66 67, none, [(66, .imm), (67, .imm)]⟩ (fun x8 => [(68, .one (.eptr (Hand.cod.enc x8) 0))]) (fun x8 => []) (fun x8 hr => pe (ei (c := Hand.cod) (k := .i64) hr)) (fun x8 => ?_))
   refine SimI.rn 1 [(69, .agg [lj x8.Cell, lj x8.To])] [] (.se ⟨some 70, .prim (.bin .neq 44 false false) [64, 69], none, [(64, .imm), (69, .imm)]⟩ [(70, qb (!(Hand.eqb x7 x8)))] [] (pe (ep (Hand_eqn x7 x8 _ _))) (.dn (.thenN (.cd _ ?_ ?_))))
   ·exact Sim.sr 1 [(4, qb false)] [] (.ret (.blockR (.thenR (.loopR (.blockR (.thenR .fn))))))
   ·refine Sim.skip (.blockN (.thenN (.region0 (.rd 3 (rp [5, 59] (qj (iw .i64 (i5 + 1))) ++ [(58, qj i5)]) [] (.loopN (.pr [2, 3, 5] [2, 3] [] [(2, qp 2 0), (3, qp 3 0), (5, qj (iw .i64 (i5 + 1)))] [(2, some (.cells (w0 a0))), (3, some (.cells (w0 a1)))] ?_))))))
    exact ih_l6 (iw .i64 (i5 + 1))
  ·refine Sim.exit (.thenX (.loopX (.blockX (.thenN (.seq (.sr 1 [(6, qj 0)] [] (.block (.loop (.pr [2, 3, 6] [2, 3] [] [(2, qp 2 0), (3, qp 3 0), (6, qj 0)] [(2, some (.cells (w0 a0))), (3, some (.cells (w0 a1)))] ?_)))))))))
   exact F13_l12_ok n a0 a1 (n + 8) 0
def F13 (n : Nat) (a0 a1 : Note) : Option Bool :=
 if a0.From != a1.From then
  some false
 else
  if a0.Beat != a1.Beat then
   some false
  else
   (F40 n a0.Moved a1.Moved).bind fun (r1 : Bool) =>
   if !(r1) then
    some false
   else
    (F40 n a0.Given a1.Given).bind fun (r2 : Bool) =>
    if !(r2) then
     some false
    else
     if ((a0.Hands).length : Int) != ((a1.Hands).length : Int) then
      some false
     else
      if ((a0.Watch).length : Int) != ((a1.Watch).length : Int) then
       some false
      else
       F13_l6 n a0 a1 (n + 8) 0
theorem F13_ok (n : Nat) (a0 a1 : Note) : ∀ r, F13 n a0 a1 = some r → D 13 [.agg [li .i64 a0.From, li .i64 a0.Beat, vw Thing.cod a0.Moved, vw Hand.cod a0.Hands, vw Thing.cod a0.Given, vw Command.cod a0.Watch], .agg [li .i64 a1.From, li .i64 a1.Beat, vw Thing.cod a1.Moved, vw Hand.cod a1.Hands, vw Thing.cod a1.Given, vw Command.cod a1.Watch]] [] = some (F13_e r) := by
 refine fn_to (D := D) (n := n + 8) (nt := 89) (rs := pc13_r) (c := p13c55) (L := [(0, .agg (w0 a0)), (1, .agg (w0 a1))]) (M := []) (k := 0) rfl rfl rfl rfl rfl rfl rfl ?_
 unfold F13
 refine Sim.sr 3 [(4, qb false), (3, qp 3 0), (2, qp 2 0)] [(3, some (.cells (w0 a1))), (2, some (.cells (w0 a0)))] (.seq (.st 6 (rp [12, 11] (qb (a0.From != a1.From)) ++ [(10, qj a1.From), (9, qp 3 0), (8, qj a0.From), (7, qp 2 0)]) [] (.sp 12 _ ?_ ?_)))
 ·exact SimI.rd 40 ([(52, qb true)] ++ rp W125 tz ++ W157 ++ rp W155 tz ++ [(35, qb true), (34, qb true)] ++ rp [33, 32, 31, 30, 29, 28] tz ++ [(27, qb true), (26, qb true)] ++ rp [25, 24, 23, 22, 21, 20] tz ++ [(19, qb true), (18, qb true)] ++ rp [17, 16, 15, 14, 13] tz) [] (.thenN (.ct (.sr 1 [(4, qb false)] [] (.ret (.thenR .fn)))))
 ·refine SimI.rn 7 (rp [19, 18, 17] (qb (a0.Beat != a1.Beat)) ++ [(16, qj a1.Beat), (15, qp 3 1), (14, qj a0.Beat), (13, qp 2 1)]) [] (.sp 19 _ ?_ ?_)
  ·exact SimI.rd 33 ([(52, qb true)] ++ rp W125 tz ++ W157 ++ rp W155 tz ++ [(35, qb true), (34, qb true)] ++ rp [33, 32, 31, 30, 29, 28] tz ++ [(27, qb true), (26, qb true)] ++ rp [25, 24, 23, 22, 21, 20] tz) [] (.thenN (.ct (.sr 1 [(4, qb false)] [] (.ret (.thenR .fn)))))
  ·refine SimI.rn 4 [(23, .one (vw Thing.cod a1.Moved)), (22, qp 3 2), (21, .one (vw Thing.cod a0.Moved)), (20, qp 2 2)] [] (.cl 24 true [[(0, 11)], [(0, 11)]] 40 [21, 23] (some (19, false)) (fun r1 => qb r1) [.one (vw Thing.cod a0.Moved), .one (vw Thing.cod a1.Moved)] (F40_ok _ _ _) (fun r1 => ?_))
   refine SimI.rn 3 (rp [27, 26, 25] (qb (!(r1)))) [] (.sp 27 _ ?_ ?_)
   ·exact SimI.rd 25 ([(52, qb true)] ++ rp W125 tz ++ W157 ++ rp W155 tz ++ [(35, qb true), (34, qb true)] ++ rp [33, 32, 31, 30, 29, 28] tz) [] (.thenN (.ct (.sr 1 [(4, qb false)] [] (.ret (.thenR .fn)))))
   ·refine SimI.rn 4 [(31, .one (vw Thing.cod a1.Given)), (30, qp 3 4), (29, .one (vw Thing.cod a0.Given)), (28, qp 2 4)] [] (.cl 32 true [[(0, 11)], [(0, 11)]] 40 [29, 31] (some (27, false)) (fun r2 => qb r2) [.one (vw Thing.cod a0.Given), .one (vw Thing.cod a1.Given)] (F40_ok _ _ _) (fun r2 => ?_))
    refine SimI.rn 3 (rp [35, 34, 33] (qb (!(r2)))) [] (.sp 35 _ ?_ ?_)
    ·exact SimI.rd 17 ([(52, qb true)] ++ rp W125 tz ++ W157 ++ rp W155 tz) [] (.thenN (.ct (.sr 1 [(4, qb false)] [] (.ret (.thenR .fn)))))
    ·refine SimI.rn 9 (rp [44, 43, 42] (qb (((a0.Hands).length : Int) != ((a1.Hands).length : Int))) ++ [(41, qj ((a1.Hands).length : Int)), (40, .one (vw Hand.cod a1.Hands)), (39, qp 3 3), (38, qj ((a0.Hands).length : Int)), (37, .one (vw Hand.cod a0.Hands)), (36, qp 2 3)]) [] (.sp 44 _ ?_ ?_)
     ·exact SimI.rd 8 ([(52, qb true)] ++ rp W125 tz) [] (.thenN (.ct (.sr 1 [(4, qb false)] [] (.ret (.thenR .fn)))))
     ·refine SimI.rd 8 (rp [52, 51] (qb (((a0.Watch).length : Int) != ((a1.Watch).length : Int))) ++ [(50, qj ((a1.Watch).length : Int)), (49, .one (vw Command.cod a1.Watch)), (48, qp 3 5), (47, qj ((a0.Watch).length : Int)), (46, .one (vw Command.cod a0.Watch)), (45, qp 2 5)]) [] (.thenN (.cd _ ?_ ?_))
      ·exact Sim.sr 1 [(4, qb false)] [] (.ret (.thenR .fn))
      ·refine Sim.skip (.thenN (.seq (.sr 1 [(5, qj 0)] [] (.block (.loop (.pr [2, 3, 5] [2, 3] [] [(2, qp 2 0), (3, qp 3 0), (5, qj 0)] [(2, some (.cells (w0 a0))), (3, some (.cells (w0 a1)))] ?_))))))
       exact F13_l6_ok n a0 a1 (n + 8) 0
def F83_e : (Int × Int × Int) → PV × List Ob := fun r => (.tup [.one (li .u64 r.1), .one (li .i64 r.2.1), .one (li .i64 r.2.2)], [])
def F83_j13 (n : Nat) (i11 i12 : Int) : Option (Int × Int × Int) :=
  if i12 == 0 then
   some (0, 0, 10)
  else
   some (i11, i12, 0)
theorem F83_j13_ok (n : Nat) (i11 i12 : Int) : Sim Try.prog D (n + 8) p83c51 [(5, .one (li .u64 i11)), (6, qj i12)] [] (F83_j13 n i11 i12) (QF false pc83_r 0 F83_e) := by
  unfold F83_j13
  refine Sim.seq (.seq (.rs (.rd 2 [(52, qb (i12 == 0)), (51, qj i12)] [] (.thenN (.cd _ ?_ ?_)))))
  ·exact Sim.sr 3 [(4, qj 10), (3, qj 0), (2, .one (li .u64 0))] [] (.ret (.thenR .fn))
  ·exact Sim.skip (.thenN (.sr 5 [(4, qj 0), (3, qj i12), (2, .one (li .u64 i11)), (54, qj i12), (53, .one (li .u64 i11))] [] (.ret .fn)))
def F83_j10 (n : Nat) (i5 i6 x8 : Int) (rec_l7 : Int → Int → Option (Int × Int × Int)) : Option (Int × Int × Int) :=
  if decide (x8 < 128) then
   if ¬ (IntKind.wrap .i64 (7 * i6) < 0) then
    F83_j13 n (bitsI .or .u64 i5 (shlI .u64 (IntKind.wrap .u64 x8) (IntKind.wrap .i64 (7 * i6)))) (IntKind.wrap .i64 (i6 + 1))
   else none
  else
   if ¬ (IntKind.wrap .i64 (7 * i6) < 0) then
    rec_l7 (bitsI .or .u64 i5 (shlI .u64 (IntKind.wrap .u64 (bitsI .andNot .u8 x8 128)) (IntKind.wrap .i64 (7 * i6)))) (IntKind.wrap .i64 (i6 + 1))
   else none
theorem F83_j10_ok (n : Nat) (a0 : ByteArray) (i5 i6 x8 : Int) (rec_l7 : Int → Int → Option (Int × Int × Int)) (m_l7 : Nat) (ih_l7 : ∀ (i5 i6 : Int), SimL Try.prog D (n + 8) m_l7 p83c37 (W49 i5 a0 i6) [] (rec_l7 i5 i6) (QB 0 (QT Try.prog D (n + 8) p83c51 (QF false pc83_r 0 F83_e)))) : Sim Try.prog D (n + 8) p83c26 (W11 i5 i6 x8 a0) [] (F83_j10 n i5 i6 x8 rec_l7) (QB 2 (QT Try.prog D (n + 8) p83c30 (QB 1 (QT Try.prog D (n + 8) p83c34 (QL Try.prog D (n + 8) m_l7 p83c37 (QB 0 (QT Try.prog D (n + 8) p83c51 (QF false pc83_r 0 F83_e)))))))) := by
  unfold F83_j10
  refine Sim.seq (.rs (.rd 3 (rp [30, 32] (qb (decide (x8 < 128))) ++ [(31, .one (li .u8 x8))]) [] (.thenN (.cd _ ?_ ?_))))
  ·refine Sim.st 5 [(37, qj (iw .i64 (7 * i6))), (36, qj i6), (35, .one (li .u64 (iw .u64 x8))), (34, .one (li .u8 x8)), (33, .one (li .u64 i5))] [] (.gp 38 (.bin .shl 38 false false) [35, 37] none [] (fun hc => pr_shl _ _ _ .u64 .i64 (iw .u64 x8) (iw .i64 (7 * i6)) hc) (.rd 2 (rp [5, 39] (.one (li .u64 (bitsI .or .u64 i5 (shlI .u64 (iw .u64 x8) (iw .i64 (7 * i6))))))) [] (.thenN (.sr 3 (rp [6, 41] (qj (iw .i64 (i6 + 1))) ++ [(40, qj i6)]) [] (.exit (.blockY rfl (.thenX (.blockY rfl (.thenX (.loopX (.blockX (.thenN (.pr [5, 6] [] [] [(5, .one (li .u64 (bitsI .or .u64 i5 (shlI .u64 (iw .u64 x8) (iw .i64 (7 * i6)))))), (6, qj (iw .i64 (i6 + 1)))] [] ?_)))))))))))))
   exact F83_j13_ok n (bitsI .or .u64 i5 (shlI .u64 (iw .u64 x8) (iw .i64 (7 * i6)))) (iw .i64 (i6 + 1))
  ·refine Sim.skip (.blockN (.thenN (.region0 (.rn 6 [(47, qj (iw .i64 (7 * i6))), (46, qj i6), (45, .one (li .u64 (iw .u64 (bitsI .andNot .u8 x8 128)))), (44, .one (li .u8 (bitsI .andNot .u8 x8 128))), (43, .one (li .u8 x8)), (42, .one (li .u64 i5))] [] (.gp 48 (.bin .shl 38 false false) [45, 47] none [] (fun hc => pr_shl _ _ _ .u64 .i64 (iw .u64 (bitsI .andNot .u8 x8 128)) (iw .i64 (7 * i6)) hc) (.rd 2 (rp [5, 49] (.one (li .u64 (bitsI .or .u64 i5 (shlI .u64 (iw .u64 (bitsI .andNot .u8 x8 128)) (iw .i64 (7 * i6))))))) [] (.blockN (.thenN (.region0 (.rd 2 (rp [12, 50] (qj (iw .i64 (i6 + 1)))) [] (.loopN (.pr [5, 6, 10, 11, 12] [] [] [(5, .one (li .u64 (bitsI .or .u64 i5 (shlI .u64 (iw .u64 (bitsI .andNot .u8 x8 128)) (iw .i64 (7 * i6)))))), (6, qj 0), (10, .one (vw (codI .u8) (bytesL a0))), (11, qj ((bytesL a0).length : Int)), (12, qj (iw .i64 (i6 + 1)))] [] ?_))))))))))))
   exact ih_l7 (bitsI .or .u64 i5 (shlI .u64 (iw .u64 (bitsI .andNot .u8 x8 128)) (iw .i64 (7 * i6)))) (iw .i64 (i6 + 1))
def F83_j9 (n : Nat) (i5 i6 x8 : Int) (rec_l7 : Int → Int → Option (Int × Int × Int)) : Option (Int × Int × Int) :=
  if decide ((0 : Int) < i6) then
   if x8 == 0 then
    some (0, 0, 11)
   else
    F83_j10 n i5 i6 x8 rec_l7
  else
   F83_j10 n i5 i6 x8 rec_l7
theorem F83_j9_ok (n : Nat) (a0 : ByteArray) (i5 i6 x8 : Int) (rec_l7 : Int → Int → Option (Int × Int × Int)) (m_l7 : Nat) (ih_l7 : ∀ (i5 i6 : Int), SimL Try.prog D (n + 8) m_l7 p83c37 (W49 i5 a0 i6) [] (rec_l7 i5 i6) (QB 0 (QT Try.prog D (n + 8) p83c51 (QF false pc83_r 0 F83_e)))) : Sim Try.prog D (n + 8) p83c12 (W11 i5 i6 x8 a0) [] (F83_j9 n i5 i6 x8 rec_l7) (QT Try.prog D (n + 8) p83c27 (QB 2 (QT Try.prog D (n + 8) p83c30 (QB 1 (QT Try.prog D (n + 8) p83c34 (QL Try.prog D (n + 8) m_l7 p83c37 (QB 0 (QT Try.prog D (n + 8) p83c51 (QF false pc83_r 0 F83_e))))))))) := by
  unfold F83_j9
  refine Sim.rs (.rn 3 (rp [26, 25] (qb (decide ((0 : Int) < i6))) ++ [(24, qj i6)]) [] (.sp 26 _ ?_ ?_))
  ·refine SimI.rd 4 (rp [17, 29, 28] (qb (x8 == 0)) ++ [(27, .one (li .u8 x8))]) [] (.thenN (.cd _ ?_ ?_))
   ·exact Sim.sr 3 W104 [] (.ret (.blockR (.thenR (.blockR (.thenR (.loopR (.blockR (.thenR .fn))))))))
   ·refine Sim.pr [5, 6, 7, 8, 10, 11, 12] [] [] (W11 i5 i6 x8 a0) [] ?_
    exact F83_j10_ok n a0 i5 i6 x8 rec_l7 m_l7 ih_l7
  ·refine SimI.rd 4 [(17, qb false), (29, qb false), (28, tz), (27, tz)] [] (.thenN (.cf (.pr [5, 6, 7, 8, 10, 11, 12] [] [] (W11 i5 i6 x8 a0) [] ?_)))
   exact F83_j10_ok n a0 i5 i6 x8 rec_l7 m_l7 ih_l7
def F83_l7 (n : Nat) (a0 : ByteArray) : Nat → Int → Int → Option (Int × Int × Int)
 | 0, _, _ => none
 | m + 1, i5, i6 =>
  if decide (i6 < ((bytesL a0).length : Int)) then
   (ix (bytesL a0) i6).bind fun (x8 : Int) =>
   if i6 == 9 then
    if decide ((1 : Int) < x8) then
     if decide ((1 : Int) < x8) then
      some (0, 0, 11)
     else
      F83_j10 n i5 i6 x8 (F83_l7 n a0 m)
    else
     F83_j9 n i5 i6 x8 (F83_l7 n a0 m)
   else
    F83_j9 n i5 i6 x8 (F83_l7 n a0 m)
  else
   F83_j13 n i5 0
theorem F83_l7_ok (n : Nat) (a0 : ByteArray) : ∀ (m : Nat) (i5 i6 : Int), SimL Try.prog D (n + 8) m p83c37 (W49 i5 a0 i6) [] (F83_l7 n a0 m i5 i6) (QB 0 (QT Try.prog D (n + 8) p83c51 (QF false pc83_r 0 F83_e))) := by
 intro m_l7
 induction m_l7 with
 | zero => intro i5 i6; exact SimL.zero'  rfl
 | succ m_l7 ih_l7 =>
  intro i5 i6
  refine SimL.succ ?_
  unfold F83_l7
  refine Sim.seq (.rg (W49 i5 a0 i6) [] (.rd 1 [(13, qb (decide (i6 < ((bytesL a0).length : Int))))] [] (.thenN (.seq (.cd _ ?_ ?_)))))
  ·refine Sim.skip (.thenN (.seq (.block (.st 1 [(14, qj i6)] [] (.bn ⟨some 15, .iaddrS 1 10 12, none, []⟩ (fun x8 => [(15, .one (.eptr ((codI .u8).enc x8) 0))]) (fun x8 => []) (fun x8 hr => pe (ei (c := (codI .u8)) (k := .i64) hr)) (fun x8 => ?_))))))
   refine SimI.rd 3 [(8, .one (li .u8 x8)), (7, qj i6), (16, .one (li .u8 x8))] [] (.thenN (.seq (.block (.seq (.st 3 [(20, qb (i6 == 9)), (19, qb (i6 == 9)), (18, qj i6)] [] (.sp 20 _ ?_ ?_))))))
   ·refine SimI.rd 4 (rp [17, 23, 22] (qb (decide ((1 : Int) < x8))) ++ [(21, .one (li .u8 x8))]) [] (.thenN (.cd _ ?_ ?_))
    ·refine Sim.skip (.thenN (.cd _ ?_ ?_))
     ·exact Sim.sr 3 W104 [] (.ret (.blockR (.thenR (.blockR (.thenR (.loopR (.blockR (.thenR .fn))))))))
     ·refine Sim.pr [5, 6, 7, 8, 10, 11, 12] [] [] (W11 i5 i6 x8 a0) [] ?_
      exact F83_j10_ok n a0 i5 i6 x8 (F83_l7 n a0 m_l7) m_l7 ih_l7
    ·refine Sim.pr [5, 6, 7, 8, 10, 11, 12] [] [] (W11 i5 i6 x8 a0) [] ?_
     exact F83_j9_ok n a0 i5 i6 x8 (F83_l7 n a0 m_l7) m_l7 ih_l7
   ·refine SimI.rd 4 [(17, qb false), (23, qb false), (22, tz), (21, tz)] [] (.thenN (.cf (.pr [5, 6, 7, 8, 10, 11, 12] [] [] (W11 i5 i6 x8 a0) [] ?_)))
    exact F83_j9_ok n a0 i5 i6 x8 (F83_l7 n a0 m_l7) m_l7 ih_l7
  ·refine Sim.exit (.thenX (.loopX (.blockX (.thenN (.pr [5, 6] [] [] [(5, .one (li .u64 i5)), (6, qj 0)] [] ?_)))))
   exact F83_j13_ok n i5 0
def F83 (n : Nat) (a0 : ByteArray) : Option (Int × Int × Int) :=
 F83_l7 n a0 (n + 8) 0 0
theorem F83_ok (n : Nat) (a0 : ByteArray) : ∀ r, F83 n a0 = some r → D 83 [.one (ls a0)] [] = some (F83_e r) := by
 refine fn_to (D := D) (n := n + 8) (nt := 55) (rs := pc83_r) (c := p83c56) (L := [(0, qs a0)]) (M := []) (k := 0) rfl rfl rfl rfl rfl rfl rfl ?_
 unfold F83
 refine Sim.sr 3 [(4, qj 0), (3, qj 0), (2, .one (li .u64 0))] [] (.scope (.sr 2 [(6, qj 0), (5, .one (li .u64 0))] [] (.seq (.label (.thenN (.seq (.st 1 [(9, qs a0)] [] (.se ⟨some 10, .s2b 5 9, none, []⟩ [(10, .one (vw (codI .u8) (bytesL a0)))] [] (pe (eff_s2b (s := a0) (by kernel_rfl))) (.rd 2 [(12, qj 0), (11, qj ((bytesL a0).length : Int))] [] (.thenN (.block (.loop (.pr [5, 6, 10, 11, 12] [] [] [(5, .one (li .u64 0)), (6, qj 0), (10, .one (vw (codI .u8) (bytesL a0))), (11, qj ((bytesL a0).length : Int)), (12, qj 0)] [] ?_)))))))))))))
 exact F83_l7_ok n a0 (n + 8) 0 0
def F69_e : (ByteArray × Int × Int) → PV × List Ob := fun r => (.tup [.one (ls r.1), .one (li .i64 r.2.1), .one (li .i64 r.2.2)], [])
def F69 (n : Nat) (a0 : ByteArray) (a1 : Int) : Option (ByteArray × Int × Int) :=
 (F83 n a0).bind fun (r1 : (Int × Int × Int)) =>
 if r1.2.2 != 0 then
  some (ByteArray.empty, 0, r1.2.2)
 else
  if decide (IntKind.wrap .u64 (imax a1 0) < r1.1) then
   some (ByteArray.empty, 0, 13)
  else
   if decide (IntKind.wrap .u64 (IntKind.wrap .i64 ((a0.size : Int) - r1.2.1)) < r1.1) then
    some (ByteArray.empty, 0, 10)
   else
    if 0 ≤ (r1.2.1 : Int) ∧ (r1.2.1 : Int) ≤ IntKind.wrap .i64 (r1.2.1 + IntKind.wrap .i64 r1.1) ∧ IntKind.wrap .i64 (r1.2.1 + IntKind.wrap .i64 r1.1) ≤ (a0.size : Int) then
     some (a0.extract r1.2.1.toNat (IntKind.wrap .i64 (r1.2.1 + IntKind.wrap .i64 r1.1)).toNat, IntKind.wrap .i64 (r1.2.1 + IntKind.wrap .i64 r1.1), 0)
    else none
theorem F69_ok (n : Nat) (a0 : ByteArray) (a1 : Int) : ∀ r, F69 n a0 a1 = some r → D 69 [.one (ls a0), .one (li .i64 a1)] [] = some (F69_e r) := by
 refine fn_to (D := D) (n := n + 8) (nt := 44) (rs := pc69_r) (c := p69c30) (L := [(0, qs a0), (1, qj a1)]) (M := []) (k := 0) rfl rfl rfl rfl rfl rfl rfl ?_
 unfold F69
 refine Sim.sr 3 [(6, qj 0), (5, qj 0), (4, qs be)] [] (.st 1 [(12, qs a0)] [] (.cl 13 true [[]] 83 [12] none (fun r1 => .tup (W44 r1)) [qs a0] (F83_ok _ _) (fun r1 => ?_)))
 refine SimI.rd 7 [(9, qj r1.2.2), (8, qj r1.2.1), (7, .one (li .u64 r1.1)), (16, qj r1.2.2), (15, qj r1.2.1), (14, .one (li .u64 r1.1)), (11, .tup (W44 r1))] [] (.thenN (.seq (.block (.sr 3 (rp [17, 19] (qb (r1.2.2 != 0)) ++ [(18, qj r1.2.2)]) [] (.cd _ ?_ ?_)))))
 ·exact Sim.sr 4 [(6, qj r1.2.2), (5, qj 0), (4, qs be), (20, qj r1.2.2)] [] (.ret (.blockR (.thenR .fn)))
 ·refine Sim.sr 6 (rp [21, 26] (qb (decide (iw .u64 (imax a1 0) < r1.1))) ++ [(25, .one (li .u64 (iw .u64 (imax a1 0)))), (24, qj (imax a1 0)), (23, qj a1), (22, .one (li .u64 r1.1))]) [] (.cd _ ?_ ?_)
  ·exact Sim.sr 3 [(6, qj 13), (5, qj 0), (4, qs be)] [] (.ret (.blockR (.thenR .fn)))
  ·refine Sim.sr 8 (rp [27, 34] (qb (decide (iw .u64 (iw .i64 ((a0.size : Int) - r1.2.1)) < r1.1))) ++ [(33, .one (li .u64 (iw .u64 (iw .i64 ((a0.size : Int) - r1.2.1))))), (32, qj (iw .i64 ((a0.size : Int) - r1.2.1))), (31, qj r1.2.1), (30, qj (a0.size : Int)), (29, qs a0), (28, .one (li .u64 r1.1))]) [] (.cd _ ?_ ?_)
   ·exact Sim.sr 3 [(6, qj 10), (5, qj 0), (4, qs be)] [] (.ret (.blockR (.thenR .fn)))
   ·exact Sim.skip (.blockN (.thenN (.sr 5 (rp [10, 38] (qj (iw .i64 (r1.2.1 + IntKind.wrap .i64 r1.1))) ++ [(37, qj (iw .i64 r1.1)), (36, .one (li .u64 r1.1)), (35, qj r1.2.1)]) [] (.st 3 [(41, qj (iw .i64 (r1.2.1 + IntKind.wrap .i64 r1.1))), (40, qj r1.2.1), (39, qs a0)] [] (.gp 42 (.slice 9 true true) [39, 40, 41] none [] (fun hc => pr_cutS (s := a0) (k := .i64) (l := .i64) (a := r1.2.1) (b := IntKind.wrap .i64 (r1.2.1 + IntKind.wrap .i64 r1.1)) Try.underlying9 hc) (.rd 4 [(6, qj 0), (5, qj (iw .i64 (r1.2.1 + IntKind.wrap .i64 r1.1))), (4, qs (a0.extract r1.2.1.toNat (iw .i64 (r1.2.1 + IntKind.wrap .i64 r1.1)).toNat)), (43, qj (iw .i64 (r1.2.1 + IntKind.wrap .i64 r1.1)))] [] (.thenN (.ret .fn))))))))
def F41_e : (ByteArray × Int × Int) → PV × List Ob := fun r => (.tup [.one (ls r.1), .one (li .i64 r.2.1), .one (li .i64 r.2.2)], [])
def F41 (n : Nat) (a0 : ByteArray) : Option (ByteArray × Int × Int) :=
 (F69 n a0 40000).bind fun (r1 : (ByteArray × Int × Int)) =>
 if r1.2.2 != 0 then
  some (ByteArray.empty, 0, r1.2.2)
 else
  if decide (IntKind.wrap .i64 ((a0.size : Int) - r1.2.1) < 4) then
   some (ByteArray.empty, 0, 10)
  else
   if 0 ≤ (r1.2.1 : Int) ∧ (r1.2.1 : Int) ≤ IntKind.wrap .i64 (r1.2.1 + 4) ∧ IntKind.wrap .i64 (r1.2.1 + 4) ≤ (a0.size : Int) then
    (F51 n r1.1).bind fun (r2 : Int) =>
    (F50 n r2).bind fun (r3 : ByteArray) =>
    if !((a0.extract r1.2.1.toNat (IntKind.wrap .i64 (r1.2.1 + 4)).toNat).toList == r3.toList) then
     some (ByteArray.empty, 0, 12)
    else
     some (r1.1, IntKind.wrap .i64 (r1.2.1 + 4), 0)
   else none
theorem F41_ok (n : Nat) (a0 : ByteArray) : ∀ r, F41 n a0 = some r → D 41 [.one (ls a0)] [] = some (F41_e r) := by
 refine fn_to (D := D) (n := n + 8) (nt := 37) (rs := pc41_r) (c := p41c28) (L := [(0, qs a0)]) (M := []) (k := 0) rfl rfl rfl rfl rfl rfl rfl ?_
 unfold F41
 refine Sim.sr 3 [(4, qj 0), (3, qj 0), (2, qs be)] [] (.st 1 [(9, qs a0)] [] (.cl 10 true [[], []] 69 [9, kk 40000] none (fun r1 => .tup (W85 r1)) [qs a0, qj 40000] (F69_ok _ _ _) (fun r1 => ?_)))
 refine SimI.rd 7 [(7, qj r1.2.2), (6, qj r1.2.1), (5, qs r1.1), (13, qj r1.2.2), (12, qj r1.2.1), (11, qs r1.1), (8, .tup (W85 r1))] [] (.thenN (.seq (.block (.sr 3 (rp [14, 16] (qb (r1.2.2 != 0)) ++ [(15, qj r1.2.2)]) [] (.cd _ ?_ ?_)))))
 ·exact Sim.sr 4 [(4, qj r1.2.2), (3, qj 0), (2, qs be), (17, qj r1.2.2)] [] (.ret (.blockR (.thenR .fn)))
 ·refine Sim.sr 6 (rp [18, 23] (qb (decide (iw .i64 ((a0.size : Int) - r1.2.1) < 4))) ++ [(22, qj (iw .i64 ((a0.size : Int) - r1.2.1))), (21, qj r1.2.1), (20, qj (a0.size : Int)), (19, qs a0)]) [] (.cd _ ?_ ?_)
  ·exact Sim.sr 3 [(4, qj 10), (3, qj 0), (2, qs be)] [] (.ret (.blockR (.thenR .fn)))
  ·refine Sim.st 4 [(28, qj (iw .i64 (r1.2.1 + 4))), (27, qj r1.2.1), (26, qj r1.2.1), (25, qs a0)] [] (.gp 29 (.slice 9 true true) [25, 26, 28] none [(25, .imm), (26, .imm), (28, .imm)] (fun hc => pr_cutS (s := a0) (k := .i64) (l := .i64) (a := r1.2.1) (b := IntKind.wrap .i64 (r1.2.1 + 4)) Try.underlying9 hc) (.rn 1 [(30, qs r1.1)] [] (.cm 31 false [[]] 51 [30] none [(30, .imm)] (F51_ok _ _) (fun r2 => ?_))))
   refine SimI.cm 32 false [[]] 50 [31] none [(31, .imm)] (F50_ok _ _) (fun r3 => ?_)
   refine SimI.rd 2 (rp [24, 33] (qb (!((a0.extract r1.2.1.toNat (iw .i64 (r1.2.1 + 4)).toNat).toList == r3.toList)))) [] (.thenN (.cd _ ?_ ?_))
   ·exact Sim.sr 3 [(4, qj 12), (3, qj 0), (2, qs be)] [] (.ret (.blockR (.thenR .fn)))
   ·exact Sim.skip (.blockN (.thenN (.sr 6 [(4, qj 0), (3, qj (iw .i64 (r1.2.1 + 4))), (2, qs r1.1), (36, qj (iw .i64 (r1.2.1 + 4))), (35, qj r1.2.1), (34, qs r1.1)] [] (.ret .fn))))
def F73_e : Reader → PV × List Ob := fun r => (.tup [], [.cells (Reader.cells r)])
def F73 (n : Nat) (a0 : Reader) (a1 a2 : Int) : Option Reader :=
 if a0.fails then
  some (Reader.mk a0.s (IntKind.wrap .i64 (a0.at_ + a1)) true)
 else
  some (Reader.mk a0.s (IntKind.wrap .i64 (a0.at_ + a1)) (a2 != 0))
theorem F73_ok (n : Nat) (a0 : Reader) (a1 a2 : Int) : ∀ r, F73 n a0 a1 a2 = some r → D 73 [.one (.ptr 1000000 0), .one (li .i64 a1), .one (li .i64 a2)] [.cells (Reader.cells a0)] = some (F73_e r) := by
 refine fn_to (D := D) (n := n + 8) (nt := 25) (rs := pc73_r) (c := p73c3) (L := [(0, qp 1000000 0), (1, qj a1), (2, qj a2)]) (M := (W62 a0)) (k := 1) rfl rfl rfl rfl rfl rfl rfl ?_
 unfold F73
 refine Sim.sr 9 [(13, qp 1000000 1), (12, qp 1000000 0), (11, qj (iw .i64 (a0.at_ + a1))), (10, qj a1), (9, qj a0.at_), (8, qp 1000000 1), (7, qp 1000000 0), (6, qp 1000000 0)] [(1000000, some (.cells [ls a0.s, lj (iw .i64 (a0.at_ + a1)), lb a0.fails]))] (.region0 (.rn 6 ([(19, qb a0.fails), (18, qb a0.fails), (17, qp 1000000 2)] ++ rp [16, 15, 14] (qp 1000000 0)) [] (.sp 19 _ ?_ ?_)))
 ·exact SimI.rd 6 [(24, qp 1000000 2), (23, qp 1000000 0), (22, qb true), (21, tz), (20, tz)] [(1000000, some (.cells [ls a0.s, lj (iw .i64 (a0.at_ + a1)), lb true]))] (.finN (by kernel_rfl))
 ·exact SimI.rd 6 [(24, qp 1000000 2), (23, qp 1000000 0), (22, qb (a2 != 0)), (21, qb (a2 != 0)), (20, qj a2)] [(1000000, some (.cells [ls a0.s, lj (iw .i64 (a0.at_ + a1)), lb (a2 != 0)]))] (.finN (by kernel_rfl))
def F70_e : (Int × Reader) → PV × List Ob := fun r => (.one (li .i64 r.1), [.cells (Reader.cells r.2)])
def F70 (n : Nat) (a0 : Reader) (a1 : Int) : Option (Int × Reader) :=
 if a0.fails then
  some (0, a0)
 else
  if 0 ≤ (a0.at_ : Int) ∧ (a0.at_ : Int) ≤ (a0.s.size : Int) then
   (F83 n (a0.s.extract a0.at_.toNat a0.s.size)).bind fun (r1 : (Int × Int × Int)) =>
   (F73 n a0 r1.2.1 r1.2.2).bind fun (r2 : Reader) =>
   if decide (a1 < r1.1) then
    some (0, (Reader.mk r2.s r2.at_ true))
   else
    some (IntKind.wrap .i64 r1.1, r2)
  else none
theorem F70_ok (n : Nat) (a0 : Reader) (a1 : Int) : ∀ r, F70 n a0 a1 = some r → D 70 [.one (.ptr 1000000 0), .one (li .u64 a1)] [.cells (Reader.cells a0)] = some (F70_e r) := by
 refine fn_to (D := D) (n := n + 8) (nt := 38) (rs := pc70_r) (c := p70c27) (L := [(0, qp 1000000 0), (1, .one (li .u64 a1))]) (M := (W62 a0)) (k := 1) rfl rfl rfl rfl rfl rfl rfl ?_
 unfold F70
 refine Sim.sr 1 [(4, qj 0)] [] (.seq (.sr 4 [(11, qb a0.fails), (10, qp 1000000 2), (9, qp 1000000 0), (8, qp 1000000 0)] [] (.cd _ ?_ ?_)))
 ·exact Sim.sr 1 [(4, qj 0)] [] (.ret (.thenR .fn))
 ·refine Sim.skip (.thenN (.st 8 ([(20, qj a0.at_), (19, qp 1000000 1), (18, qp 1000000 0), (17, qp 1000000 0), (16, qs a0.s)] ++ rp [15, 14, 13] (qp 1000000 0)) [] (.gp 21 (.slice 9 true false) [16, 20] none [(16, .imm), (20, .imm)] (fun hc => pr_cutL (s := a0.s) (k := .i64) (a := a0.at_) Try.underlying9 hc) (.cm 22 false [[]] 83 [21] none [(21, .imm)] (F83_ok _ _) (fun r1 => ?_)))))
  refine SimI.rd 7 [(7, qj r1.2.2), (6, qj r1.2.1), (5, .one (li .u64 r1.1)), (25, qj r1.2.2), (24, qj r1.2.1), (23, .one (li .u64 r1.1)), (12, .tup (W44 r1))] [] (.thenN (.st 3 [(28, qj r1.2.2), (27, qj r1.2.1), (26, qp 1000000 0)] [] (.bn ⟨some 29, .call true [[], [], []] 73 [26, 27, 28], none, []⟩ (fun r2 => [(29, tz)]) (fun r2 => (W62 r2)) (fun r2 hr => pe (qc (ARGS := [qp 1000000 0, qj r1.2.1, qj r1.2.2]) (ks := [1000000]) (os := [(Reader.cells a0)]) (os' := [(Reader.cells r2)]) (F73_ok _ _ _ _ _ hr))) (fun r2 => ?_))))
  refine SimI.dn (.thenN (.seq (.sr 3 [(32, qb (decide (a1 < r1.1))), (31, .one (li .u64 a1)), (30, .one (li .u64 r1.1))] [] (.cd _ ?_ ?_))))
  ·exact Sim.sr 4 [(35, qp 1000000 2), (34, qp 1000000 0), (33, qp 1000000 0)] [(1000000, some (.cells [ls r2.s, lj r2.at_, lb true]))] (.sr 1 [(4, qj 0)] [] (.ret (.thenR .fn)))
  ·exact Sim.skip (.thenN (.sr 3 (rp [4, 37] (qj (iw .i64 r1.1)) ++ [(36, .one (li .u64 r1.1))]) [] (.ret .fn)))
def F98_e : Reader_fields → PV × List Ob := fun r => (.tup [], [.cells (Reader_fields.cells r)])
def F98 (n : Nat) (a0 : Reader_fields) (a1 a2 : Int) : Option Reader_fields :=
 some (Reader_fields.mk a0.s (IntKind.wrap .i64 (a0.at_ + a1)) a2)
theorem F98_ok (n : Nat) (a0 : Reader_fields) (a1 a2 : Int) : ∀ r, F98 n a0 a1 a2 = some r → D 98 [.one (.ptr 1000000 0), .one (li .i64 a1), .one (li .i64 a2)] [.cells (Reader_fields.cells a0)] = some (F98_e r) := by
 refine fn_to (D := D) (n := n + 8) (nt := 18) (rs := pc98_r) (c := p98c3) (L := [(0, qp 1000000 0), (1, qj a1), (2, qj a2)]) (M := (W79 a0)) (k := 1) rfl rfl rfl rfl rfl rfl rfl ?_
 unfold F98
 exact Sim.sr 9 [(13, qp 1000000 1), (12, qp 1000000 0), (11, qj (iw .i64 (a0.at_ + a1))), (10, qj a1), (9, qj a0.at_), (8, qp 1000000 1), (7, qp 1000000 0), (6, qp 1000000 0)] [(1000000, some (.cells [ls a0.s, lj (iw .i64 (a0.at_ + a1)), lj a0.e]))] (.region0 (.rd 5 [(17, qp 1000000 2), (16, qp 1000000 0), (15, qj a2), (14, qp 1000000 0)] [(1000000, some (.cells [ls a0.s, lj (iw .i64 (a0.at_ + a1)), lj a2]))] (.finN (by kernel_rfl))))
def F96_e : (Int × Reader_fields) → PV × List Ob := fun r => (.one (li .i64 r.1), [.cells (Reader_fields.cells r.2)])
def F96 (n : Nat) (a0 : Reader_fields) : Option (Int × Reader_fields) :=
 if a0.e != 0 then
  some (0, a0)
 else
  if 0 ≤ (a0.at_ : Int) ∧ (a0.at_ : Int) ≤ (a0.s.size : Int) then
   (F83 n (a0.s.extract a0.at_.toNat a0.s.size)).bind fun (r1 : (Int × Int × Int)) =>
   (F98 n a0 r1.2.1 r1.2.2).bind fun (r2 : Reader_fields) =>
   some (IntKind.wrap .i64 (imin r1.1 1000001), r2)
  else none
theorem F96_ok (n : Nat) (a0 : Reader_fields) : ∀ r, F96 n a0 = some r → D 96 [.one (.ptr 1000000 0)] [.cells (Reader_fields.cells a0)] = some (F96_e r) := by
 refine fn_to (D := D) (n := n + 8) (nt := 32) (rs := pc96_r) (c := p96c17) (L := [(0, qp 1000000 0)]) (M := (W79 a0)) (k := 1) rfl rfl rfl rfl rfl rfl rfl ?_
 unfold F96
 refine Sim.sr 1 [(2, qj 0)] [] (.seq (.sr 5 [(10, qb (a0.e != 0)), (9, qj a0.e), (8, qp 1000000 2), (7, qp 1000000 0), (6, qp 1000000 0)] [] (.cd _ ?_ ?_)))
 ·exact Sim.sr 1 [(2, qj 0)] [] (.ret (.thenR .fn))
 ·refine Sim.skip (.thenN (.st 8 ([(19, qj a0.at_), (18, qp 1000000 1), (17, qp 1000000 0), (16, qp 1000000 0), (15, qs a0.s)] ++ rp [14, 13, 12] (qp 1000000 0)) [] (.gp 20 (.slice 9 true false) [15, 19] none [(15, .imm), (19, .imm)] (fun hc => pr_cutL (s := a0.s) (k := .i64) (a := a0.at_) Try.underlying9 hc) (.cm 21 false [[]] 83 [20] none [(20, .imm)] (F83_ok _ _) (fun r1 => ?_)))))
  refine SimI.rd 7 [(5, qj r1.2.2), (4, qj r1.2.1), (3, .one (li .u64 r1.1)), (24, qj r1.2.2), (23, qj r1.2.1), (22, .one (li .u64 r1.1)), (11, .tup (W44 r1))] [] (.thenN (.st 3 [(27, qj r1.2.2), (26, qj r1.2.1), (25, qp 1000000 0)] [] (.bn ⟨some 28, .call true [[], [], []] 98 [25, 26, 27], none, []⟩ (fun r2 => [(28, tz)]) (fun r2 => (W79 r2)) (fun r2 hr => pe (qc (ARGS := [qp 1000000 0, qj r1.2.1, qj r1.2.2]) (ks := [1000000]) (os := [(Reader_fields.cells a0)]) (os' := [(Reader_fields.cells r2)]) (F98_ok _ _ _ _ _ hr))) (fun r2 => ?_))))
  exact SimI.dn (.thenN (.sr 4 (rp [2, 31] (qj (iw .i64 (imin r1.1 1000001))) ++ [(30, .one (li .u64 (imin r1.1 1000001))), (29, .one (li .u64 r1.1))]) [] (.ret .fn)))
def F93_e : Int → PV × List Ob := fun r => (.one (li .i64 r), [])
def F93 (n : Nat) (a0 : Int) : Option Int :=
 some (bitsI .xor .i64 (IntKind.wrap .i64 (shrI .u64 a0 1)) (IntKind.wrap .i64 (0 - (IntKind.wrap .i64 (bitsI .and .u64 a0 1)))))
theorem F93_ok (n : Nat) (a0 : Int) : ∀ r, F93 n a0 = some r → D 93 [.one (li .u64 a0)] [] = some (F93_e r) := by
 refine fn_to (D := D) (n := n + 8) (nt := 11) (rs := pc93_r) (c := p93c5) (L := [(0, .one (li .u64 a0))]) (M := []) (k := 0) rfl rfl rfl rfl rfl rfl rfl ?_
 unfold F93
 exact Sim.sr 1 [(2, qj 0)] [] (.sr 9 (rp [2, 10] (qj (bitsI .xor .i64 (iw .i64 (shrI .u64 a0 1)) (iw .i64 (0 - (iw .i64 (bitsI .and .u64 a0 1)))))) ++ [(9, qj (iw .i64 (0 - (iw .i64 (bitsI .and .u64 a0 1))))), (8, qj (iw .i64 (bitsI .and .u64 a0 1))), (7, .one (li .u64 (bitsI .and .u64 a0 1))), (6, .one (li .u64 a0)), (5, qj (iw .i64 (shrI .u64 a0 1))), (4, .one (li .u64 (shrI .u64 a0 1))), (3, .one (li .u64 a0))]) [] (.ret .fn))
def F86_e : (Int × Int × Int) → PV × List Ob := fun r => (.tup [.one (li .i64 r.1), .one (li .i64 r.2.1), .one (li .i64 r.2.2)], [])
def F86 (n : Nat) (a0 : ByteArray) : Option (Int × Int × Int) :=
 (F83 n a0).bind fun (r1 : (Int × Int × Int)) =>
 (F93 n r1.1).bind fun (r2 : Int) =>
 some (r2, r1.2.1, r1.2.2)
theorem F86_ok (n : Nat) (a0 : ByteArray) : ∀ r, F86 n a0 = some r → D 86 [.one (ls a0)] [] = some (F86_e r) := by
 refine fn_to (D := D) (n := n + 8) (nt := 18) (rs := pc86_r) (c := p86c7) (L := [(0, qs a0)]) (M := []) (k := 0) rfl rfl rfl rfl rfl rfl rfl ?_
 unfold F86
 refine Sim.sr 3 [(4, qj 0), (3, qj 0), (2, qj 0)] [] (.st 1 [(9, qs a0)] [] (.cl 10 true [[]] 83 [9] none (fun r1 => .tup (W44 r1)) [qs a0] (F83_ok _ _) (fun r1 => ?_)))
 refine SimI.rd 7 [(7, qj r1.2.2), (6, qj r1.2.1), (5, .one (li .u64 r1.1)), (13, qj r1.2.2), (12, qj r1.2.1), (11, .one (li .u64 r1.1)), (8, .tup (W44 r1))] [] (.thenN (.st 1 [(14, .one (li .u64 r1.1))] [] (.cl 15 true [[]] 93 [14] none (fun r2 => qj r2) [.one (li .u64 r1.1)] (F93_ok _ _) (fun r2 => ?_))))
 exact SimI.rd 5 [(4, qj r1.2.2), (3, qj r1.2.1), (2, qj r2), (17, qj r1.2.2), (16, qj r1.2.1)] [] (.thenN (.ret .fn))
def F97_e : (Field × Reader_fields) → PV × List Ob := fun r => (.agg [li .i64 r.1.N, ls r.1.Text], [.cells (Reader_fields.cells r.2)])
def F97 (n : Nat) (a0 : Reader_fields) : Option (Field × Reader_fields) :=
 if a0.e != 0 then
  some ((Field.mk 0 ByteArray.empty), a0)
 else
  if 0 ≤ (a0.at_ : Int) ∧ (a0.at_ : Int) ≤ (a0.s.size : Int) then
   (F69 n (a0.s.extract a0.at_.toNat a0.s.size) 12).bind fun (r1 : (ByteArray × Int × Int)) =>
   (F98 n a0 r1.2.1 r1.2.2).bind fun (r2 : Reader_fields) =>
   if r1.1.toList == ByteArray.empty.toList then
    if r1.2.2 == 0 then
     if 0 ≤ (r2.at_ : Int) ∧ (r2.at_ : Int) ≤ (r2.s.size : Int) then
      (F86 n (r2.s.extract r2.at_.toNat r2.s.size)).bind fun (r3 : (Int × Int × Int)) =>
      (F98 n r2 r3.2.1 r3.2.2).bind fun (r4 : Reader_fields) =>
      some ((Field.mk r3.1 r1.1), r4)
     else none
    else
     some ((Field.mk 0 r1.1), r2)
   else
    some ((Field.mk 0 r1.1), r2)
  else none
theorem F97_ok (n : Nat) (a0 : Reader_fields) : ∀ r, F97 n a0 = some r → D 97 [.one (.ptr 1000000 0)] [.cells (Reader_fields.cells a0)] = some (F97_e r) := by
 refine fn_to (D := D) (n := n + 8) (nt := 63) (rs := pc97_r) (c := p97c31) (L := [(0, qp 1000000 0)]) (M := (W79 a0)) (k := 1) rfl rfl rfl rfl rfl rfl rfl ?_
 unfold F97
 refine Sim.sr 1 [(2, qp 2 0)] [(2, some (.cells [lj 0, ls be]))] (.sr 1 [(3, qp 3 0)] [(3, some (.cells [lj 0, ls be]))] (.seq (.sr 5 [(14, qb (a0.e != 0)), (13, qj a0.e), (12, qp 1000000 2), (11, qp 1000000 0), (10, qp 1000000 0)] [] (.cd _ ?_ ?_))))
 ·exact Sim.sr 2 [(15, .agg [lj 0, ls be])] [(2, some (.cells [lj 0, ls be]))] (.ret (.thenR .fn))
 ·refine Sim.skip (.thenN (.st 8 ([(24, qj a0.at_), (23, qp 1000000 1), (22, qp 1000000 0), (21, qp 1000000 0), (20, qs a0.s)] ++ rp [19, 18, 17] (qp 1000000 0)) [] (.gp 25 (.slice 9 true false) [20, 24] none [(20, .imm), (24, .imm)] (fun hc => pr_cutL (s := a0.s) (k := .i64) (a := a0.at_) Try.underlying9 hc) (.cm 26 false [[], []] 69 [25, kk 12] none [(25, .imm)] (F69_ok _ _ _) (fun r1 => ?_)))))
  refine SimI.rd 7 [(6, qj r1.2.2), (5, qj r1.2.1), (4, qs r1.1), (29, qj r1.2.2), (28, qj r1.2.1), (27, qs r1.1), (16, .tup (W85 r1))] [] (.thenN (.st 3 [(32, qj r1.2.2), (31, qj r1.2.1), (30, qp 1000000 0)] [] (.bn ⟨some 33, .call true [[], [], []] 98 [30, 31, 32], none, []⟩ (fun r2 => [(33, tz)]) (fun r2 => (W79 r2)) (fun r2 hr => pe (qc (ARGS := [qp 1000000 0, qj r1.2.1, qj r1.2.2]) (ks := [1000000]) (os := [(Reader_fields.cells a0)]) (os' := [(Reader_fields.cells r2)]) (F98_ok _ _ _ _ _ hr))) (fun r2 => ?_))))
  refine SimI.dn (.thenN (.seq (.sr 3 [(35, qp 3 1), (34, qs r1.1)] [(3, some (.cells [lj 0, ls r1.1]))] (.st 3 (rp [38, 37] (qb (r1.1.toList == be.toList)) ++ [(36, qs r1.1)]) [] (.sp 38 _ ?_ ?_)))))
  ·refine SimI.rd 3 (rp [41, 40] (qb (r1.2.2 == 0)) ++ [(39, qj r1.2.2)]) [] (.thenN (.cd _ ?_ ?_))
   ·refine Sim.st 8 ([(50, qj r2.at_), (49, qp 1000000 1), (48, qp 1000000 0), (47, qp 1000000 0), (46, qs r2.s)] ++ rp [45, 44, 43] (qp 1000000 0)) [] (.gp 51 (.slice 9 true false) [46, 50] none [(46, .imm), (50, .imm)] (fun hc => pr_cutL (s := r2.s) (k := .i64) (a := r2.at_) Try.underlying9 hc) (.cm 52 false [[]] 86 [51] none [(51, .imm)] (F86_ok _ _) (fun r3 => ?_)))
    refine SimI.rd 7 [(9, qj r3.2.2), (8, qj r3.2.1), (7, qj r3.1), (55, qj r3.2.2), (54, qj r3.2.1), (53, qj r3.1), (42, .tup [qj r3.1, qj r3.2.1, qj r3.2.2])] [] (.thenN (.st 3 [(58, qj r3.2.2), (57, qj r3.2.1), (56, qp 1000000 0)] [] (.bn ⟨some 59, .call true [[], [], []] 98 [56, 57, 58], none, []⟩ (fun r4 => [(59, tz)]) (fun r4 => (W79 r4)) (fun r4 hr => pe (qc (ARGS := [qp 1000000 0, qj r3.2.1, qj r3.2.2]) (ks := [1000000]) (os := [(Reader_fields.cells r2)]) (os' := [(Reader_fields.cells r4)]) (F98_ok _ _ _ _ _ hr))) (fun r4 => ?_))))
    exact SimI.dn (.thenN (.region0 (.rd 3 [(61, qp 3 0), (60, qj r3.1)] [(3, some (.cells [lj r3.1, ls r1.1]))] (.thenN (.sr 2 [(62, .agg [lj r3.1, ls r1.1])] [(2, some (.cells [lj r3.1, ls r1.1]))] (.ret .fn))))))
   ·exact Sim.skip (.thenN (.sr 2 [(62, .agg [lj 0, ls r1.1])] [(2, some (.cells [lj 0, ls r1.1]))] (.ret .fn)))
  ·exact SimI.rd 3 [(41, qb false), (40, tz), (39, tz)] [] (.thenN (.cf (.skip (.thenN (.sr 2 [(62, .agg [lj 0, ls r1.1])] [(2, some (.cells [lj 0, ls r1.1]))] (.ret .fn))))))
end Go.Proofs.Ytpjejnefegdoeaa
