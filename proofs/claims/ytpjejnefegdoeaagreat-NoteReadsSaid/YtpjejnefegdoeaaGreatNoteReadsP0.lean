/- No condition. -/
import Derived.Test.YtpjejnefegdoeaaGreatNoteReadsE
namespace Go.Proofs.YtpjejnefegdoeaaGreat
open Go Go.Rx
set_option maxRecDepth 100000
set_option linter.unusedVariables false
set_option linter.unusedSimpArgs false
set_option linter.unnecessarySimpa false
set_option linter.unnecessarySimpa false
def F61_e : Bool → PV × List Ob := fun r => (.one (lb r), [])
def F61 (n : Nat) (a0 : Field) : Option Bool :=
 if a0.N == 0 then
  some (decide ((a0.Text.size : Int) ≤ 12))
 else
  if a0.Text.toList == ByteArray.empty.toList then
   some (decide ((a0.Text.size : Int) ≤ 12))
  else
   some false
theorem F61_ok (n : Nat) (a0 : Field) : ∀ r, F61 n a0 = some r → D 61 [.agg [li .i64 a0.N, ls a0.Text]] [] = some (F61_e r) := by
 refine fn_to (D := D) (n := n + 8) (nt := 17) (rs := pc61_r) (c := p61c5) (L := [(0, .agg [lj a0.N, ls a0.Text])]) (M := []) (k := 0) rfl rfl rfl rfl rfl rfl rfl ?_
 unfold F61
 refine Sim.su 2 (W128 a0) (.sv 4 [] (.sp 6 _ ?_ ?_))
 ·exact SimI.ru 11 [] (.thenN (.ret .fn))
 ·refine SimI.rn 5 (w12 a0) [] (.sp 11 _ ?_ ?_)
  ·exact SimI.rd 6 (w13 a0) [] (.thenN (.ret .fn))
  ·exact SimI.ru 6 [] (.thenN (.ret .fn))
def F62_e : Command → PV × List Ob := fun r => (.agg (Command.cells r), [])
def F62 (n : Nat) (a0 : Command) : Option Command :=
 if a0.Kind == 1 then
  some (Command.mk a0.Kind 0 0 0 a0.At a0.F (Field.mk 0 ByteArray.empty) a0.Client a0.Session (Rect.mk 0 0 0 0))
 else
  if a0.Kind == 2 then
   some (Command.mk a0.Kind a0.ID 0 0 a0.At (A4.mk (Field.mk 0 ByteArray.empty) (Field.mk 0 ByteArray.empty) (Field.mk 0 ByteArray.empty) (Field.mk 0 ByteArray.empty)) (Field.mk 0 ByteArray.empty) a0.Client a0.Session (Rect.mk 0 0 0 0))
  else
   if a0.Kind == 3 then
    some (Command.mk a0.Kind a0.ID a0.Which 0 (Point.mk 0 0) (A4.mk (Field.mk 0 ByteArray.empty) (Field.mk 0 ByteArray.empty) (Field.mk 0 ByteArray.empty) (Field.mk 0 ByteArray.empty)) a0.Value a0.Client a0.Session (Rect.mk 0 0 0 0))
   else
    if a0.Kind == 4 then
     some (Command.mk a0.Kind a0.ID 0 0 (Point.mk 0 0) (A4.mk (Field.mk 0 ByteArray.empty) (Field.mk 0 ByteArray.empty) (Field.mk 0 ByteArray.empty) (Field.mk 0 ByteArray.empty)) (Field.mk 0 ByteArray.empty) a0.Client a0.Session (Rect.mk 0 0 0 0))
    else
     if a0.Kind == 5 then
      some (Command.mk a0.Kind 0 a0.Which a0.To (Point.mk 0 0) (A4.mk (Field.mk 0 ByteArray.empty) (Field.mk 0 ByteArray.empty) (Field.mk 0 ByteArray.empty) (Field.mk 0 ByteArray.empty)) (Field.mk 0 ByteArray.empty) a0.Client a0.Session (Rect.mk 0 0 0 0))
     else
      if a0.Kind == 6 then
       if a0.Kind == 6 then
        some (Command.mk a0.Kind 0 0 0 (Point.mk 0 0) (A4.mk (Field.mk 0 ByteArray.empty) (Field.mk 0 ByteArray.empty) (Field.mk 0 ByteArray.empty) (Field.mk 0 ByteArray.empty)) (Field.mk 0 ByteArray.empty) a0.Client a0.Session a0.Rect)
       else
        some (Command.mk a0.Kind 0 0 0 (Point.mk 0 0) (A4.mk (Field.mk 0 ByteArray.empty) (Field.mk 0 ByteArray.empty) (Field.mk 0 ByteArray.empty) (Field.mk 0 ByteArray.empty)) (Field.mk 0 ByteArray.empty) a0.Client a0.Session (Rect.mk 0 0 0 0))
      else
       if a0.Kind == 7 then
        some (Command.mk a0.Kind 0 0 0 (Point.mk 0 0) (A4.mk (Field.mk 0 ByteArray.empty) (Field.mk 0 ByteArray.empty) (Field.mk 0 ByteArray.empty) (Field.mk 0 ByteArray.empty)) (Field.mk 0 ByteArray.empty) a0.Client a0.Session a0.Rect)
       else
        some (Command.mk a0.Kind 0 0 0 (Point.mk 0 0) (A4.mk (Field.mk 0 ByteArray.empty) (Field.mk 0 ByteArray.empty) (Field.mk 0 ByteArray.empty) (Field.mk 0 ByteArray.empty)) (Field.mk 0 ByteArray.empty) a0.Client a0.Session (Rect.mk 0 0 0 0))
theorem F62_ok (n : Nat) (a0 : Command) : ∀ r, F62 n a0 = some r → D 62 [.agg (Command.cells a0)] [] = some (F62_e r) := by
 refine fn_to (D := D) (n := n + 8) (nt := 60) (rs := pc62_r) (c := p62c40) (L := (W79 a0)) (M := []) (k := 0) rfl rfl rfl rfl rfl rfl rfl ?_
 unfold F62
 refine Sim.su 2 [(2, some (.cells W0)), (1, some (.cells (Command.cells a0)))] (.su 9 [(3, some (.cells (w1 a0))), (3, some (.cells W0))] (.seq (.su 2 [] (.block (.su 2 [] (.cd _ ?_ ?_))))))
 ·exact Sim.region0 (.ru 8 [(3, some (.cells (W12 a0))), (3, some (.cells (w14 a0)))] (.blockN (.thenN (.su 2 [(2, some (.cells (W12 a0)))] (.ret .fn)))))
 ·refine Sim.su 2 [] (.cd _ ?_ ?_)
  ·exact Sim.region0 (.ru 8 [(3, some (.cells (w4 a0))), (3, some (.cells (w3 a0)))] (.blockN (.thenN (.su 2 [(2, some (.cells (w4 a0)))] (.ret .fn)))))
  ·refine Sim.su 2 [] (.cd _ ?_ ?_)
   ·exact Sim.region0 (.ru 12 [(3, some (.cells (w5 a0))), (3, some (.cells (w15 a0))), (3, some (.cells (w3 a0)))] (.blockN (.thenN (.su 2 [(2, some (.cells (w5 a0)))] (.ret .fn)))))
   ·refine Sim.su 2 [] (.cd _ ?_ ?_)
    ·exact Sim.region0 (.ru 4 [(3, some (.cells (w3 a0)))] (.blockN (.thenN (.su 2 [(2, some (.cells (w3 a0)))] (.ret .fn)))))
    ·refine Sim.su 2 [] (.cd _ ?_ ?_)
     ·exact Sim.region0 (.rd 8 (w16 a0) [(3, some (.cells (w6 a0))), (3, some (.cells (w17 a0)))] (.blockN (.thenN (.su 2 [(2, some (.cells (w6 a0)))] (.ret .fn)))))
     ·refine Sim.seq (.su 2 [] (.cd _ ?_ ?_))
      ·refine Sim.skip (.thenN (.cd _ ?_ ?_))
       ·exact Sim.region0 (.rd 4 (w7 a0) [(3, some (.cells (w2 a0)))] (.blockN (.thenN (.su 2 [(2, some (.cells (w2 a0)))] (.ret .fn)))))
       ·exact Sim.skip (.blockN (.thenN (.su 2 [(2, some (.cells (w1 a0)))] (.ret .fn))))
      ·refine Sim.region0 (.ru 2 [] (.thenN (.cd _ ?_ ?_)))
       ·exact Sim.region0 (.rd 4 (w7 a0) [(3, some (.cells (w2 a0)))] (.blockN (.thenN (.su 2 [(2, some (.cells (w2 a0)))] (.ret .fn)))))
       ·exact Sim.skip (.blockN (.thenN (.su 2 [(2, some (.cells (w1 a0)))] (.ret .fn))))
def F63_e : Bool → PV × List Ob := fun r => (.one (lb r), [])
def F63_l4 (n : Nat) (a0 : (List Int)) : Nat → Int → Option Bool
 | 0, _ => none
 | m + 1, i3 =>
  if decide (i3 < ((a0).length : Int)) then
   (ix a0 i3).bind fun (x5 : Int) =>
   if decide (((-1000) : Int) ≤ x5) then
    if decide (x5 ≤ 1000) then
     (F63_l4 n a0 m) (IntKind.wrap .i64 (i3 + 1))
    else
     some false
   else
    some false
  else
   some true
theorem F63_l4_ok (n : Nat) (a0 : (List Int)) : ∀ (m : Nat) (i3 : Int), SimL Tryz.prog D (n + 8) m p63c23 [(5, .one (vw (codI .i64) a0)), (6, qj ((a0).length : Int)), (7, qj i3)] [] (F63_l4 n a0 m i3) (QB 0 (QT Tryz.prog D (n + 8) p63c29 (QF false pc63_r 0 F63_e))) := by
 intro m_l4
 induction m_l4 with
 | zero => intro i3; exact SimL.zero'  rfl
 | succ m_l4 ih_l4 =>
  intro i3
  refine SimL.succ ?_
  unfold F63_l4
  refine Sim.seq (.rg [(5, .one (vw (codI .i64) a0)), (6, qj ((a0).length : Int)), (7, qj i3)] [] (.ru 1 [] (.thenN (.seq (.cd _ ?_ ?_)))))
  ·refine Sim.skip (.thenN (.seq (.block (.seq (.region0 (.bn ⟨some 9, .iaddrS 1 5 7, none, []⟩ (fun x5 => [(9, .one (.eptr ((codI .i64).enc x5) 0))]) (fun x5 => []) (fun x5 hr => pe (ei (c := (codI .i64)) (k := .i64) hr)) (fun x5 => ?_)))))))
   refine SimI.ru 2 [] (.thenN (.seq (.sv 3 [] (.sp 13 _ ?_ ?_))))
   ·refine SimI.ru 3 [] (.thenN (.cd _ ?_ ?_))
    ·refine Sim.exit (.thenX (.blockX (.thenN (.region0 (.ru 2 [] (.loopN (.pr [5, 6, 7] [] [] [(5, .one (vw (codI .i64) a0)), (6, qj ((a0).length : Int)), (7, qj (iw .i64 (i3 + 1)))] [] ?_)))))))
     exact ih_l4 (iw .i64 (i3 + 1))
    ·exact Sim.skip (.thenN (.su 1 [] (.ret (.blockR (.thenR (.loopR (.blockR (.thenR .fn))))))))
   ·exact SimI.ru 3 [] (.thenN (.cf (.skip (.thenN (.su 1 [] (.ret (.blockR (.thenR (.loopR (.blockR (.thenR .fn)))))))))))
  ·exact Sim.exit (.thenX (.loopX (.blockX (.thenN (.su 1 [] (.ret .fn))))))
def F63 (n : Nat) (a0 : (List Int)) : Option Bool :=
 F63_l4 n a0 (n + 8) 0
theorem F63_ok (n : Nat) (a0 : (List Int)) : ∀ r, F63 n a0 = some r → D 63 [.one (vw (codI .i64) a0)] [] = some (F63_e r) := by
 refine fn_to (D := D) (n := n + 8) (nt := 18) (rs := pc63_r) (c := p63c33) (L := [(0, .one (vw (codI .i64) a0))]) (M := []) (k := 0) rfl rfl rfl rfl rfl rfl rfl ?_
 unfold F63
 refine Sim.su 1 [] (.scope (.seq (.label (.thenN (.seq (.su 3 [] (.block (.loop (.pr [5, 6, 7] [] [] [(5, .one (vw (codI .i64) a0)), (6, qj ((a0).length : Int)), (7, qj 0)] [] ?_)))))))))
 exact F63_l4_ok n a0 (n + 8) 0
def F31_e : Bool → PV × List Ob := fun r => (.one (lb r), [])
def F31_j12 (n : Nat) (a0 : Command) (b6 b8 b11 : Bool) : Option Bool :=
  if b6 then
   if b8 then
    if b11 then
     (F63 n [a0.At.X, a0.At.Y, a0.Rect.X0, a0.Rect.Y0, a0.Rect.X1, a0.Rect.Y1]).bind fun (r13 : Bool) =>
     some r13
    else
     some false
   else
    some false
  else
   some false
theorem F31_j12_ok (n : Nat) (a0 : Command) (b6 b8 b11 : Bool) : Sim Tryz.prog D (n + 8) p31c29 [(1, qp 1 0), (5, qb b6), (6, qb b8), (7, qb b11)] (W2 a0) (F31_j12 n a0 b6 b8 b11) (QF false pc31_r 0 F31_e) := by
  unfold F31_j12
  refine Sim.seq (.rs (.rv 2 [] (.sp 83 _ ?_ ?_)))
  ·refine SimI.rv 3 [] (.sp 86 _ ?_ ?_)
   ·refine SimI.rv 3 [] (.sp 89 _ ?_ ?_)
    ·refine SimI.rv 19 [] (.cl 109 true [[(0, 1)]] 63 [108] (some (89, true)) (fun r13 => qb r13) [.one (vw (codI .i64) [a0.At.X, a0.At.Y, a0.Rect.X0, a0.Rect.Y0, a0.Rect.X1, a0.Rect.Y1])] (F63_ok _ _) (fun r13 => ?_))
     exact SimI.ru 2 [] (.thenN (.ret .fn))
    ·exact SimI.ru 22 [] (.thenN (.ret .fn))
   ·exact SimI.ru 25 [] (.thenN (.ret .fn))
  ·exact SimI.ru 28 [] (.thenN (.ret .fn))
def F31_j9 (n : Nat) (a0 : Command) (b6 b8 : Bool) : Option Bool :=
  if decide ((0 : Int) ≤ a0.ID) then
   if decide (a0.ID ≤ 1000000) then
    if decide (((-1) : Int) ≤ a0.Which) then
     if decide (a0.Which ≤ 100) then
      if decide (((-1) : Int) ≤ a0.To) then
       if decide (a0.To ≤ 100) then
        (F61 n a0.Value).bind fun (r10 : Bool) =>
        F31_j12 n a0 b6 b8 r10
       else
        F31_j12 n a0 b6 b8 false
      else
       F31_j12 n a0 b6 b8 false
     else
      F31_j12 n a0 b6 b8 false
    else
     F31_j12 n a0 b6 b8 false
   else
    F31_j12 n a0 b6 b8 false
  else
   F31_j12 n a0 b6 b8 false
theorem F31_j9_ok (n : Nat) (a0 : Command) (b6 b8 : Bool) : Sim Tryz.prog D (n + 8) p31c30 [(1, qp 1 0), (5, qb b6), (6, qb b8)] (W2 a0) (F31_j9 n a0 b6 b8) (QF false pc31_r 0 F31_e) := by
  unfold F31_j9
  refine Sim.seq (.rs (.rv 4 [] (.sp 52 _ ?_ ?_)))
  ·refine SimI.rv 5 [] (.sp 57 _ ?_ ?_)
   ·refine SimI.rv 5 [] (.sp 62 _ ?_ ?_)
    ·refine SimI.rv 5 [] (.sp 67 _ ?_ ?_)
     ·refine SimI.rv 5 [] (.sp 72 _ ?_ ?_)
      ·refine SimI.rv 5 [] (.sp 77 _ ?_ ?_)
       ·refine SimI.rv 2 [] (.cl 80 true [[]] 61 [79] (some (77, true)) (fun r10 => qb r10) [.agg [lj a0.Value.N, ls a0.Value.Text]] (F61_ok _ _) (fun r10 => ?_))
        refine SimI.ru 2 [] (.thenN (.pr [1, 5, 6, 7] [1] [] [(1, qp 1 0), (5, qb b6), (6, qb b8), (7, qb r10)] (W2 a0) ?_))
        exact F31_j12_ok n a0 b6 b8 r10
       ·refine SimI.ru 5 [] (.thenN (.pr [1, 5, 6, 7] [1] [] (W78 b6 b8) (W2 a0) ?_))
        exact F31_j12_ok n a0 b6 b8 false
      ·refine SimI.ru 10 [] (.thenN (.pr [1, 5, 6, 7] [1] [] (W78 b6 b8) (W2 a0) ?_))
       exact F31_j12_ok n a0 b6 b8 false
     ·refine SimI.ru 15 [] (.thenN (.pr [1, 5, 6, 7] [1] [] (W78 b6 b8) (W2 a0) ?_))
      exact F31_j12_ok n a0 b6 b8 false
    ·refine SimI.ru 20 [] (.thenN (.pr [1, 5, 6, 7] [1] [] (W78 b6 b8) (W2 a0) ?_))
     exact F31_j12_ok n a0 b6 b8 false
   ·refine SimI.ru 25 [] (.thenN (.pr [1, 5, 6, 7] [1] [] (W78 b6 b8) (W2 a0) ?_))
    exact F31_j12_ok n a0 b6 b8 false
  ·refine SimI.ru 30 [] (.thenN (.pr [1, 5, 6, 7] [1] [] (W78 b6 b8) (W2 a0) ?_))
   exact F31_j12_ok n a0 b6 b8 false
def F31_j7 (n : Nat) (a0 : Command) (b6 : Bool) : Option Bool :=
  if decide ((0 : Int) ≤ a0.Client) then
   if decide (a0.Client < 4) then
    if decide ((0 : Int) ≤ a0.Session) then
     F31_j9 n a0 b6 (decide (a0.Session ≤ 1000000))
    else
     F31_j9 n a0 b6 false
   else
    F31_j9 n a0 b6 false
  else
   F31_j9 n a0 b6 false
theorem F31_j7_ok (n : Nat) (a0 : Command) (b6 : Bool) : Sim Tryz.prog D (n + 8) p31c31 [(1, qp 1 0), (5, qb b6)] (W2 a0) (F31_j7 n a0 b6) (QF false pc31_r 0 F31_e) := by
  unfold F31_j7
  refine Sim.seq (.rs (.rv 4 [] (.sp 34 _ ?_ ?_)))
  ·refine SimI.rv 5 [] (.sp 39 _ ?_ ?_)
   ·refine SimI.rv 5 [] (.sp 44 _ ?_ ?_)
    ·refine SimI.ru 5 [] (.thenN (.pr [1, 5, 6] [1] [] [(1, qp 1 0), (5, qb b6), (6, qb (decide (a0.Session ≤ 1000000)))] (W2 a0) ?_))
     exact F31_j9_ok n a0 b6 (decide (a0.Session ≤ 1000000))
    ·refine SimI.ru 5 [] (.thenN (.pr [1, 5, 6] [1] [] [(1, qp 1 0), (5, qb b6), (6, qb false)] (W2 a0) ?_))
     exact F31_j9_ok n a0 b6 false
   ·refine SimI.ru 10 [] (.thenN (.pr [1, 5, 6] [1] [] [(1, qp 1 0), (5, qb b6), (6, qb false)] (W2 a0) ?_))
    exact F31_j9_ok n a0 b6 false
  ·refine SimI.ru 15 [] (.thenN (.pr [1, 5, 6] [1] [] [(1, qp 1 0), (5, qb b6), (6, qb false)] (W2 a0) ?_))
   exact F31_j9_ok n a0 b6 false
def F31 (n : Nat) (a0 : Command) : Option Bool :=
 (F61 n a0.F.a0).bind fun (r1 : Bool) =>
 if !(r1) then
  some false
 else
  (F61 n a0.F.a1).bind fun (r2 : Bool) =>
  if !(r2) then
   some false
  else
   (F61 n a0.F.a2).bind fun (r3 : Bool) =>
   if !(r3) then
    some false
   else
    (F61 n a0.F.a3).bind fun (r4 : Bool) =>
    if !(r4) then
     some false
    else
     if decide ((1 : Int) ≤ a0.Kind) then
      if decide (a0.Kind ≤ 8) then
       (F62 n a0).bind fun (r5 : Command) =>
       F31_j7 n a0 (Command.eqb a0 r5)
      else
       F31_j7 n a0 false
     else
      F31_j7 n a0 false
theorem F31_ok (n : Nat) (a0 : Command) : ∀ r, F31 n a0 = some r → D 31 [.agg (Command.cells a0)] [] = some (F31_e r) := by
 refine fn_to (D := D) (n := n + 8) (nt := 111) (rs := pc31_r) (c := p31c34) (L := (W79 a0)) (M := []) (k := 0) rfl rfl rfl rfl rfl rfl rfl ?_
 unfold F31
 refine Sim.su 2 (W2 a0) (.seq (.su 3 [] (.block (.loop (.succ (.seq (.rg [(1, qp 1 0), (9, .agg (A4_Field.cells a0.F)), (10, qj 0)] (W2 a0) (.ru 1 [] (.thenN (.seq (.ct (.skip (.thenN (.seq (.block (.su 3 [(4, some (.cells [lj a0.F.a0.N, ls a0.F.a0.Text])), (4, some (.cells [lj 0, ls be]))] (.sv 1 [] (.cl 14 true [[]] 61 [13] none (fun r1 => qb r1) [.agg [lj a0.F.a0.N, ls a0.F.a0.Text]] (F61_ok _ _) (fun r1 => ?_)))))))))))))))))))
 refine SimI.ru 1 [] (.thenN (.cd _ ?_ ?_))
 ·exact Sim.su 1 [] (.ret (.blockR (.thenR (.loopR (.blockR (.thenR .fn))))))
 ·refine Sim.skip (.blockN (.thenN (.region0 (.ru 2 [] (.loopN (.succ (.seq (.rg [(1, qp 1 0), (9, .agg (A4_Field.cells a0.F)), (10, qj 1)] (W2 a0) (.ru 1 [] (.thenN (.seq (.ct (.skip (.thenN (.seq (.block (.su 3 [(4, some (.cells [lj a0.F.a1.N, ls a0.F.a1.Text])), (4, some (.cells [lj 0, ls be]))] (.sv 1 [] (.cl 14 true [[]] 61 [13] none (fun r2 => qb r2) [.agg [lj a0.F.a1.N, ls a0.F.a1.Text]] (F61_ok _ _) (fun r2 => ?_))))))))))))))))))))
  refine SimI.ru 1 [] (.thenN (.cd _ ?_ ?_))
  ·exact Sim.su 1 [] (.ret (.blockR (.thenR (.loopR (.blockR (.thenR .fn))))))
  ·refine Sim.skip (.blockN (.thenN (.region0 (.ru 2 [] (.loopN (.succ (.seq (.rg [(1, qp 1 0), (9, .agg (A4_Field.cells a0.F)), (10, qj 2)] (W2 a0) (.ru 1 [] (.thenN (.seq (.ct (.skip (.thenN (.seq (.block (.su 3 [(4, some (.cells [lj a0.F.a2.N, ls a0.F.a2.Text])), (4, some (.cells [lj 0, ls be]))] (.sv 1 [] (.cl 14 true [[]] 61 [13] none (fun r3 => qb r3) [.agg [lj a0.F.a2.N, ls a0.F.a2.Text]] (F61_ok _ _) (fun r3 => ?_))))))))))))))))))))
   refine SimI.ru 1 [] (.thenN (.cd _ ?_ ?_))
   ·exact Sim.su 1 [] (.ret (.blockR (.thenR (.loopR (.blockR (.thenR .fn))))))
   ·refine Sim.skip (.blockN (.thenN (.region0 (.ru 2 [] (.loopN (.succ (.seq (.rg [(1, qp 1 0), (9, .agg (A4_Field.cells a0.F)), (10, qj 3)] (W2 a0) (.ru 1 [] (.thenN (.seq (.ct (.skip (.thenN (.seq (.block (.su 3 [(4, some (.cells [lj a0.F.a3.N, ls a0.F.a3.Text])), (4, some (.cells [lj 0, ls be]))] (.sv 1 [] (.cl 14 true [[]] 61 [13] none (fun r4 => qb r4) [.agg [lj a0.F.a3.N, ls a0.F.a3.Text]] (F61_ok _ _) (fun r4 => ?_))))))))))))))))))))
    refine SimI.ru 1 [] (.thenN (.cd _ ?_ ?_))
    ·exact Sim.su 1 [] (.ret (.blockR (.thenR (.loopR (.blockR (.thenR .fn))))))
    ·refine Sim.skip (.blockN (.thenN (.region0 (.ru 2 [] (.loopN (.succ (.seq (.rg [(1, qp 1 0), (9, .agg (A4_Field.cells a0.F)), (10, qj 4)] (W2 a0) (.ru 1 [] (.thenN (.seq (.cf (.exit (.thenX (.loopX (.blockX (.thenN (.sv 4 [] (.sp 20 _ ?_ ?_)))))))))))))))))))
     ·refine SimI.rv 5 [] (.sp 25 _ ?_ ?_)
      ·refine SimI.rv 2 [] (.cm 28 false [[]] 62 [27] (some (25, true)) [(27, .imm)] (F62_ok _ _) (fun r5 => ?_))
       refine SimI.se ⟨some 29, .prim (.bin .eql 56 false false) [26, 28], some (25, true), [(26, .imm), (28, .imm)]⟩ [(29, qb (Command.eqb a0 r5))] [] (pe (ep (Command_eql a0 r5 _ _))) (.ru 2 [] (.thenN (.pr [1, 5] [1] [] [(1, qp 1 0), (5, qb (Command.eqb a0 r5))] (W2 a0) ?_)))
       exact F31_j7_ok n a0 (Command.eqb a0 r5)
      ·refine SimI.ru 6 [] (.thenN (.pr [1, 5] [1] [] [(1, qp 1 0), (5, qb false)] (W2 a0) ?_))
       exact F31_j7_ok n a0 false
     ·refine SimI.ru 11 [] (.thenN (.pr [1, 5] [1] [] [(1, qp 1 0), (5, qb false)] (W2 a0) ?_))
      exact F31_j7_ok n a0 false
def F32_e : Bool → PV × List Ob := fun r => (.one (lb r), [])
def F32 (n : Nat) (a0 : Command) : Option Bool :=
 if decide ((6 : Int) ≤ a0.Kind) then
  some (decide (a0.Kind ≤ 8))
 else
  some false
theorem F32_ok (n : Nat) (a0 : Command) : ∀ r, F32 n a0 = some r → D 32 [.agg (Command.cells a0)] [] = some (F32_e r) := by
 refine fn_to (D := D) (n := n + 8) (nt := 11) (rs := pc32_r) (c := p32c5) (L := (W79 a0)) (M := []) (k := 0) rfl rfl rfl rfl rfl rfl rfl ?_
 unfold F32
 refine Sim.su 2 (W2 a0) (.sv 4 [] (.sp 6 _ ?_ ?_))
 ·exact SimI.ru 5 [] (.thenN (.ret .fn))
 ·exact SimI.ru 5 [] (.thenN (.ret .fn))
def F30_e : Bool → PV × List Ob := fun r => (.one (lb r), [])
def F30 (n : Nat) (a0 : Command) : Option Bool :=
 (F31 n a0).bind fun (r1 : Bool) =>
 if !(r1) then
  some true
 else
  (F32 n a0).bind fun (r2 : Bool) =>
  some (!(r2))
theorem F30_ok (n : Nat) (a0 : Command) : ∀ r, F30 n a0 = some r → D 30 [.agg (Command.cells a0)] [] = some (F30_e r) := by
 refine fn_to (D := D) (n := n + 8) (nt := 11) (rs := pc30_r) (c := p30c5) (L := (W79 a0)) (M := []) (k := 0) rfl rfl rfl rfl rfl rfl rfl ?_
 unfold F30
 refine Sim.su 2 (W2 a0) (.sv 1 [] (.cl 4 true [[]] 31 [3] none (fun r1 => qb r1) [.agg (Command.cells a0)] (F31_ok _ _) (fun r1 => ?_)))
 refine SimI.rv 2 [] (.sp 6 _ ?_ ?_)
 ·exact SimI.ru 5 [] (.thenN (.ret .fn))
 ·refine SimI.rv 1 [] (.cl 8 true [[]] 32 [7] (some (6, false)) (fun r2 => qb r2) [.agg (Command.cells a0)] (F32_ok _ _) (fun r2 => ?_))
  exact SimI.ru 3 [] (.thenN (.ret .fn))
def F64_e : Bool → PV × List Ob := fun r => (.one (lb r), [])
def F64 (n : Nat) (a0 : Int) : Option Bool :=
 if decide ((0 : Int) ≤ a0) then
  some (decide (a0 < 16))
 else
  some false
theorem F64_ok (n : Nat) (a0 : Int) : ∀ r, F64 n a0 = some r → D 64 [.one (li .i64 a0)] [] = some (F64_e r) := by
 refine fn_to (D := D) (n := n + 8) (nt := 9) (rs := pc64_r) (c := p64c5) (L := [(0, qj a0)]) (M := []) (k := 0) rfl rfl rfl rfl rfl rfl rfl ?_
 unfold F64
 refine Sim.su 1 [] (.sv 3 [] (.sp 5 _ ?_ ?_))
 ·exact SimI.ru 4 [] (.thenN (.ret .fn))
 ·exact SimI.ru 4 [] (.thenN (.ret .fn))
def F33_e : Bool → PV × List Ob := fun r => (.one (lb r), [])
def F33_l4 (n : Nat) (a0 : (List Hand)) (a1 a2 : Int) : Nat → Int → Option Bool
 | 0, _ => none
 | m + 1, i3 =>
  if decide (i3 < ((a0).length : Int)) then
   (ix a0 i3).bind fun (x5 : Hand) =>
   (F64 n x5.Cell).bind fun (r6 : Bool) =>
   if !(r6) then
    some false
   else
    if decide ((0 : Int) < i3) then
     (ix a0 (IntKind.wrap .i64 (i3 - 1))).bind fun (x7 : Hand) =>
     if decide (x5.Cell ≤ x7.Cell) then
      some false
     else
      if decide (x5.To < 0) then
       some false
      else
       if decide (a2 ≤ x5.To) then
        some false
       else
        if x5.To == a1 then
         some false
        else
         (F33_l4 n a0 a1 a2 m) (IntKind.wrap .i64 (i3 + 1))
    else
     if decide (x5.To < 0) then
      some false
     else
      if decide (a2 ≤ x5.To) then
       some false
      else
       if x5.To == a1 then
        some false
       else
        (F33_l4 n a0 a1 a2 m) (IntKind.wrap .i64 (i3 + 1))
  else
   some true
theorem F33_l4_ok (n : Nat) (a0 : (List Hand)) (a1 a2 : Int) : ∀ (m : Nat) (i3 : Int), SimL Tryz.prog D (n + 8) m p33c20 [(0, .one (vw Hand.cod a0)), (1, qj a1), (2, qj a2), (9, .one (vw Hand.cod a0)), (10, qj ((a0).length : Int)), (11, qj i3)] [] (F33_l4 n a0 a1 a2 m i3) (QB 0 (QT Tryz.prog D (n + 8) p33c26 (QF false pc33_r 0 F33_e))) := by
 intro m_l4
 induction m_l4 with
 | zero => intro i3; exact SimL.zero'  rfl
 | succ m_l4 ih_l4 =>
  intro i3
  refine SimL.succ ?_
  unfold F33_l4
  refine Sim.seq (.rg [(0, .one (vw Hand.cod a0)), (1, qj a1), (2, qj a2), (9, .one (vw Hand.cod a0)), (10, qj ((a0).length : Int)), (11, qj i3)] [] (.ru 1 [] (.thenN (.seq (.cd _ ?_ ?_)))))
  ·refine Sim.skip (.thenN (.seq (.block (.sv 1 [] (.bn ⟨some 14, .iaddrS 2 9 11, none, []⟩ (fun x5 => [(14, .one (.eptr (Hand.cod.enc x5) 0))]) (fun x5 => []) (fun x5 hr => pe (ei (c := Hand.cod) (k := .i64) hr)) (fun x5 => ?_))))))
   refine SimI.ru 4 [(8, some (.cells [lj x5.Cell, lj x5.To])), (8, some (.cells [lj 0, lj 0]))] (.thenN (.sv 2 [] (.cm 18 false [[]] 64 [17] none [(17, .imm)] (F64_ok _ _) (fun r6 => ?_))))
   refine SimI.rv 2 [] (.sp 20 _ ?_ ?_)
   ·exact SimI.ru 31 [] (.thenN (.ct (.su 1 [] (.ret (.blockR (.thenR (.loopR (.blockR (.thenR .fn)))))))))
   ·refine SimI.rv 3 [] (.sp 23 _ ?_ ?_)
    ·refine SimI.rv 5 [] (.bn ⟨some 29, .iaddrS 2 26 28, some (23, true), [(26, .imm), (28, .imm)]⟩ (fun x7 => [(29, .one (.eptr (Hand.cod.enc x7) 0))]) (fun x7 => []) (fun x7 hr => pe (ei (c := Hand.cod) (k := .i64) hr)) (fun x7 => ?_))
     refine SimI.rv 6 [] (.sp 35 _ ?_ ?_)
     ·exact SimI.ru 16 [] (.thenN (.ct (.su 1 [] (.ret (.blockR (.thenR (.loopR (.blockR (.thenR .fn)))))))))
     ·refine SimI.rv 5 [] (.sp 40 _ ?_ ?_)
      ·exact SimI.ru 11 [] (.thenN (.ct (.su 1 [] (.ret (.blockR (.thenR (.loopR (.blockR (.thenR .fn)))))))))
      ·refine SimI.rv 6 [] (.sp 46 _ ?_ ?_)
       ·exact SimI.ru 5 [] (.thenN (.ct (.su 1 [] (.ret (.blockR (.thenR (.loopR (.blockR (.thenR .fn)))))))))
       ·refine SimI.ru 5 [] (.thenN (.cd _ ?_ ?_))
        ·exact Sim.su 1 [] (.ret (.blockR (.thenR (.loopR (.blockR (.thenR .fn))))))
        ·refine Sim.skip (.blockN (.thenN (.region0 (.ru 2 [] (.loopN (.pr [0, 1, 2, 9, 10, 11] [8] [] [(0, .one (vw Hand.cod a0)), (1, qj a1), (2, qj a2), (9, .one (vw Hand.cod a0)), (10, qj ((a0).length : Int)), (11, qj (iw .i64 (i3 + 1)))] [] ?_))))))
         exact ih_l4 (iw .i64 (i3 + 1))
    ·refine SimI.rv 17 [] (.sp 40 _ ?_ ?_)
     ·exact SimI.ru 11 [] (.thenN (.ct (.su 1 [] (.ret (.blockR (.thenR (.loopR (.blockR (.thenR .fn)))))))))
     ·refine SimI.rv 6 [] (.sp 46 _ ?_ ?_)
      ·exact SimI.ru 5 [] (.thenN (.ct (.su 1 [] (.ret (.blockR (.thenR (.loopR (.blockR (.thenR .fn)))))))))
      ·refine SimI.ru 5 [] (.thenN (.cd _ ?_ ?_))
       ·exact Sim.su 1 [] (.ret (.blockR (.thenR (.loopR (.blockR (.thenR .fn))))))
       ·refine Sim.skip (.blockN (.thenN (.region0 (.ru 2 [] (.loopN (.pr [0, 1, 2, 9, 10, 11] [8] [] [(0, .one (vw Hand.cod a0)), (1, qj a1), (2, qj a2), (9, .one (vw Hand.cod a0)), (10, qj ((a0).length : Int)), (11, qj (iw .i64 (i3 + 1)))] [] ?_))))))
        exact ih_l4 (iw .i64 (i3 + 1))
  ·exact Sim.exit (.thenX (.loopX (.blockX (.thenN (.su 1 [] (.ret .fn))))))
def F33 (n : Nat) (a0 : (List Hand)) (a1 a2 : Int) : Option Bool :=
 F33_l4 n a0 a1 a2 (n + 8) 0
theorem F33_ok (n : Nat) (a0 : (List Hand)) (a1 a2 : Int) : ∀ r, F33 n a0 a1 a2 = some r → D 33 [.one (vw Hand.cod a0), .one (li .i64 a1), .one (li .i64 a2)] [] = some (F33_e r) := by
 refine fn_to (D := D) (n := n + 8) (nt := 53) (rs := pc33_r) (c := p33c28) (L := [(0, .one (vw Hand.cod a0)), (1, qj a1), (2, qj a2)]) (M := []) (k := 0) rfl rfl rfl rfl rfl rfl rfl ?_
 unfold F33
 refine Sim.su 1 [] (.seq (.su 3 [] (.block (.loop (.pr [0, 1, 2, 9, 10, 11] [8] [] [(0, .one (vw Hand.cod a0)), (1, qj a1), (2, qj a2), (9, .one (vw Hand.cod a0)), (10, qj ((a0).length : Int)), (11, qj 0)] [] ?_)))))
 exact F33_l4_ok n a0 a1 a2 (n + 8) 0
def F87_e : Bool → PV × List Ob := fun r => (.one (lb r), [])
def F87 (n : Nat) (a0 : Point) : Option Bool :=
 if decide ((0 : Int) ≤ a0.X) then
  if decide (a0.X < 64) then
   if decide ((0 : Int) ≤ a0.Y) then
    some (decide (a0.Y < 64))
   else
    some false
  else
   some false
 else
  some false
theorem F87_ok (n : Nat) (a0 : Point) : ∀ r, F87 n a0 = some r → D 87 [.agg [li .i64 a0.X, li .i64 a0.Y]] [] = some (F87_e r) := by
 refine fn_to (D := D) (n := n + 8) (nt := 21) (rs := pc87_r) (c := p87c5) (L := [(0, .agg [lj a0.X, lj a0.Y])]) (M := []) (k := 0) rfl rfl rfl rfl rfl rfl rfl ?_
 unfold F87
 refine Sim.su 2 (W105 a0) (.st 4 (w18 a0) [] (.sp 6 _ ?_ ?_))
 ·refine SimI.rn 5 (w19 a0) [] (.sp 11 _ ?_ ?_)
  ·refine SimI.rn 5 (w20 a0) [] (.sp 16 _ ?_ ?_)
   ·exact SimI.rd 5 (w21 a0) [] (.thenN (.ret .fn))
   ·exact SimI.ru 5 [] (.thenN (.ret .fn))
  ·exact SimI.ru 10 [] (.thenN (.ret .fn))
 ·exact SimI.ru 15 [] (.thenN (.ret .fn))
def F99_e : Int → PV × List Ob := fun r => (.one (li .u32 r), [])
def F99 (n : Nat) (a0 : Int) : Option Int :=
 some (bitsI .and .u32 (bitsI .or .u32 (bitsI .and .u32 (bitsI .or .u32 (bitsI .and .u32 (bitsI .or .u32 (bitsI .and .u32 (bitsI .or .u32 a0 (shlI .u32 a0 8)) 16711935) (shlI .u32 (bitsI .and .u32 (bitsI .or .u32 a0 (shlI .u32 a0 8)) 16711935) 4)) 252645135) (shlI .u32 (bitsI .and .u32 (bitsI .or .u32 (bitsI .and .u32 (bitsI .or .u32 a0 (shlI .u32 a0 8)) 16711935) (shlI .u32 (bitsI .and .u32 (bitsI .or .u32 a0 (shlI .u32 a0 8)) 16711935) 4)) 252645135) 2)) 858993459) (shlI .u32 (bitsI .and .u32 (bitsI .or .u32 (bitsI .and .u32 (bitsI .or .u32 (bitsI .and .u32 (bitsI .or .u32 a0 (shlI .u32 a0 8)) 16711935) (shlI .u32 (bitsI .and .u32 (bitsI .or .u32 a0 (shlI .u32 a0 8)) 16711935) 4)) 252645135) (shlI .u32 (bitsI .and .u32 (bitsI .or .u32 (bitsI .and .u32 (bitsI .or .u32 a0 (shlI .u32 a0 8)) 16711935) (shlI .u32 (bitsI .and .u32 (bitsI .or .u32 a0 (shlI .u32 a0 8)) 16711935) 4)) 252645135) 2)) 858993459) 1)) 1431655765)
theorem F99_ok (n : Nat) (a0 : Int) : ∀ r, F99 n a0 = some r → D 99 [.one (li .u32 a0)] [] = some (F99_e r) := by
 refine fn_to (D := D) (n := n + 8) (nt := 24) (rs := pc99_r) (c := p99c22) (L := [(0, .one (li .u32 a0))]) (M := []) (k := 0) rfl rfl rfl rfl rfl rfl rfl ?_
 unfold F99
 exact Sim.su 1 [] (.seq (.su 6 [] (.block (.loop (.succ (.seq (.rg [(0, .one (li .u32 a0)), (9, .agg W20), (10, qj 0)] [] (.ru 1 [] (.thenN (.seq (.ct (.skip (.thenN (.seq (.block (.su 3 [(4, some (.cells [li .u64 8, li .u32 16711935])), (4, some (.cells [li .u64 0, li .u32 0]))] (.region0 (.ru 10 [] (.blockN (.thenN (.region0 (.ru 2 [] (.loopN (.succ (.seq (.rg [(0, .one (li .u32 (bitsI .and .u32 (bitsI .or .u32 a0 (shlI .u32 a0 8)) 16711935))), (9, .agg W20), (10, qj 1)] [] (.ru 1 [] (.thenN (.seq (.ct (.skip (.thenN (.seq (.block (.su 3 [(4, some (.cells [li .u64 4, li .u32 252645135])), (4, some (.cells [li .u64 0, li .u32 0]))] (.region0 (.ru 10 [] (.blockN (.thenN (.region0 (.ru 2 [] (.loopN (.succ (.seq (.rg [(0, .one (li .u32 (bitsI .and .u32 (bitsI .or .u32 (bitsI .and .u32 (bitsI .or .u32 a0 (shlI .u32 a0 8)) 16711935) (shlI .u32 (bitsI .and .u32 (bitsI .or .u32 a0 (shlI .u32 a0 8)) 16711935) 4)) 252645135))), (9, .agg W20), (10, qj 2)] [] (.ru 1 [] (.thenN (.seq (.ct (.skip (.thenN (.seq (.block (.su 3 [(4, some (.cells [li .u64 2, li .u32 858993459])), (4, some (.cells [li .u64 0, li .u32 0]))] (.region0 (.ru 10 [] (.blockN (.thenN (.region0 (.ru 2 [] (.loopN (.succ (.seq (.rg [(0, .one (li .u32 (bitsI .and .u32 (bitsI .or .u32 (bitsI .and .u32 (bitsI .or .u32 (bitsI .and .u32 (bitsI .or .u32 a0 (shlI .u32 a0 8)) 16711935) (shlI .u32 (bitsI .and .u32 (bitsI .or .u32 a0 (shlI .u32 a0 8)) 16711935) 4)) 252645135) (shlI .u32 (bitsI .and .u32 (bitsI .or .u32 (bitsI .and .u32 (bitsI .or .u32 a0 (shlI .u32 a0 8)) 16711935) (shlI .u32 (bitsI .and .u32 (bitsI .or .u32 a0 (shlI .u32 a0 8)) 16711935) 4)) 252645135) 2)) 858993459))), (9, .agg W20), (10, qj 3)] [] (.ru 1 [] (.thenN (.seq (.ct (.skip (.thenN (.seq (.block (.su 3 [(4, some (.cells [li .u64 1, li .u32 1431655765])), (4, some (.cells [li .u64 0, li .u32 0]))] (.region0 (.ru 10 [] (.blockN (.thenN (.region0 (.ru 2 [] (.loopN (.succ (.seq (.rg [(0, .one (li .u32 (bitsI .and .u32 (bitsI .or .u32 (bitsI .and .u32 (bitsI .or .u32 (bitsI .and .u32 (bitsI .or .u32 (bitsI .and .u32 (bitsI .or .u32 a0 (shlI .u32 a0 8)) 16711935) (shlI .u32 (bitsI .and .u32 (bitsI .or .u32 a0 (shlI .u32 a0 8)) 16711935) 4)) 252645135) (shlI .u32 (bitsI .and .u32 (bitsI .or .u32 (bitsI .and .u32 (bitsI .or .u32 a0 (shlI .u32 a0 8)) 16711935) (shlI .u32 (bitsI .and .u32 (bitsI .or .u32 a0 (shlI .u32 a0 8)) 16711935) 4)) 252645135) 2)) 858993459) (shlI .u32 (bitsI .and .u32 (bitsI .or .u32 (bitsI .and .u32 (bitsI .or .u32 (bitsI .and .u32 (bitsI .or .u32 a0 (shlI .u32 a0 8)) 16711935) (shlI .u32 (bitsI .and .u32 (bitsI .or .u32 a0 (shlI .u32 a0 8)) 16711935) 4)) 252645135) (shlI .u32 (bitsI .and .u32 (bitsI .or .u32 (bitsI .and .u32 (bitsI .or .u32 a0 (shlI .u32 a0 8)) 16711935) (shlI .u32 (bitsI .and .u32 (bitsI .or .u32 a0 (shlI .u32 a0 8)) 16711935) 4)) 252645135) 2)) 858993459) 1)) 1431655765))), (9, .agg W20), (10, qj 4)] [] (.ru 1 [] (.thenN (.seq (.cf (.exit (.thenX (.loopX (.blockX (.thenN (.su 2 [] (.ret .fn))))))))))))))))))))))))))))))))))))))))))))))))))))))))))))))))))))))))))))))))))))))))))))))
def F96_e : Int → PV × List Ob := fun r => (.one (li .u32 r), [])
def F96 (n : Nat) (a0 a1 : Int) : Option Int :=
 (F99 n (IntKind.wrap .u32 a0)).bind fun (r1 : Int) =>
 (F99 n (IntKind.wrap .u32 a1)).bind fun (r2 : Int) =>
 some (bitsI .or .u32 r1 (shlI .u32 r2 1))
theorem F96_ok (n : Nat) (a0 a1 : Int) : ∀ r, F96 n a0 a1 = some r → D 96 [.one (li .u16 a0), .one (li .u16 a1)] [] = some (F96_e r) := by
 refine fn_to (D := D) (n := n + 8) (nt := 13) (rs := pc96_r) (c := p96c5) (L := [(0, .one (li .u16 a0)), (1, .one (li .u16 a1))]) (M := []) (k := 0) rfl rfl rfl rfl rfl rfl rfl ?_
 unfold F96
 refine Sim.su 1 [] (.sv 2 [] (.cl 7 true [[]] 99 [6] none (fun r1 => .one (li .u32 r1)) [.one (li .u32 (iw .u32 a0))] (F99_ok _ _) (fun r1 => ?_)))
 refine SimI.rv 2 [] (.cl 10 true [[]] 99 [9] none (fun r2 => .one (li .u32 r2)) [.one (li .u32 (iw .u32 a1))] (F99_ok _ _) (fun r2 => ?_))
 exact SimI.ru 3 [] (.thenN (.ret .fn))
def F88_e : Int → PV × List Ob := fun r => (.one (li .i64 r), [])
def F88 (n : Nat) (a0 a1 : Int) : Option Int :=
 (F96 n (IntKind.wrap .u16 a0) (IntKind.wrap .u16 a1)).bind fun (r1 : Int) =>
 some (IntKind.wrap .i64 r1)
theorem F88_ok (n : Nat) (a0 a1 : Int) : ∀ r, F88 n a0 a1 = some r → D 88 [.one (li .i64 a0), .one (li .i64 a1)] [] = some (F88_e r) := by
 refine fn_to (D := D) (n := n + 8) (nt := 11) (rs := pc88_r) (c := p88c5) (L := [(0, qj a0), (1, qj a1)]) (M := []) (k := 0) rfl rfl rfl rfl rfl rfl rfl ?_
 unfold F88
 refine Sim.su 1 [] (.sv 4 [] (.cl 9 true [[], []] 96 [6, 8] none (fun r1 => .one (li .u32 r1)) [.one (li .u16 (iw .u16 a0)), .one (li .u16 (iw .u16 a1))] (F96_ok _ _ _) (fun r1 => ?_)))
 exact SimI.ru 2 [] (.thenN (.ret .fn))
def F65_e : (Int × Int) → PV × List Ob := fun r => (.tup [.one (li .i64 r.1), .one (li .i64 r.2)], [])
def F65 (n : Nat) (a0 : Point) : Option (Int × Int) :=
 (F87 n a0).bind fun (r1 : Bool) =>
 if !(r1) then
  some (0, 14)
 else
  (F88 n (IntKind.wrap .i64 (Int.tdiv a0.X 16)) (IntKind.wrap .i64 (Int.tdiv a0.Y 16))).bind fun (r2 : Int) =>
  some (r2, 0)
theorem F65_ok (n : Nat) (a0 : Point) : ∀ r, F65 n a0 = some r → D 65 [.agg [li .i64 a0.X, li .i64 a0.Y]] [] = some (F65_e r) := by
 refine fn_to (D := D) (n := n + 8) (nt := 14) (rs := pc65_r) (c := p65c13) (L := [(0, .agg [lj a0.X, lj a0.Y])]) (M := []) (k := 0) rfl rfl rfl rfl rfl rfl rfl ?_
 unfold F65
 refine Sim.su 3 (W105 a0) (.seq (.sv 1 [] (.cl 5 true [[]] 87 [4] none (fun r1 => qb r1) [.agg [lj a0.X, lj a0.Y]] (F87_ok _ _) (fun r1 => ?_))))
 refine SimI.ru 1 [] (.thenN (.cd _ ?_ ?_))
 ·exact Sim.su 2 [] (.ret (.thenR .fn))
 ·refine Sim.skip (.thenN (.sv 6 [] (.cl 13 true [[], []] 88 [9, 12] none (fun r2 => qj r2) [qj (iw .i64 (Int.tdiv a0.X 16)), qj (iw .i64 (Int.tdiv a0.Y 16))] (F88_ok _ _ _) (fun r2 => ?_))))
  exact SimI.ru 2 [] (.thenN (.ret .fn))
def F67s0_e (a0 : Hand) (a1 : Int) : Bool → PV × List Ob := fun r => (.one (lb r), [.cells [li .i64 a1]])
def F67s0 (n : Nat) (a0 : Hand) (a1 : Int) : Option Bool :=
 some (a0.Cell == a1)
theorem F67s0_ok (n : Nat) (a0 : Hand) (a1 : Int) : ∀ r, F67s0 n a0 a1 = some r → D 67 [.agg [li .i64 a0.Cell, li .i64 a0.To], .one (.ptr 1000000 0)] [.cells [li .i64 a1]] = some ((F67s0_e a0 a1) r) := by
 refine fn_to (D := D) (n := n + 8) (nt := 8) (rs := pc67_r) (c := p67c5) (L := [(0, .agg [lj a0.Cell, lj a0.To]), (1, qp 1000000 0)]) (M := (W74 a1)) (k := 1) rfl rfl rfl rfl rfl rfl rfl ?_
 unfold F67s0
 exact Sim.su 2 [(2, some (.cells [lj a0.Cell, lj a0.To]))] (.su 5 [] (.ret .fn))
def F89s0_e (a0 : (List Hand)) (a1 : Int) : Int → PV × List Ob := fun r => (.one (li .i64 r), [.cells [li .i64 a1]])
def F89s0_l4 (n : Nat) (a0 : (List Hand)) (a1 : Int) : Nat → Int → Option Int
 | 0, _ => none
 | m + 1, i3 =>
  if decide (i3 < ((a0).length : Int)) then
   (ix a0 i3).bind fun (x5 : Hand) =>
   (F67s0 n x5 a1).bind fun (r6 : Bool) =>
   if r6 then
    some i3
   else
    (F89s0_l4 n a0 a1 m) (IntKind.wrap .i64 (i3 + 1))
  else
   some (-1)
theorem F89s0_l4_ok (n : Nat) (a0 : (List Hand)) (a1 : Int) : ∀ (m : Nat) (i3 : Int), SimL Tryz.prog D (n + 8) m p89c20 [(0, .one (vw Hand.cod a0)), (1, .one (.fn 67 [.ptr 1000000 0])), (7, qj ((a0).length : Int)), (8, qj i3)] (W74 a1) (F89s0_l4 n a0 a1 m i3) (QB 0 (QT Tryz.prog D (n + 8) p89c26 (QF false pc89_r 1 (F89s0_e a0 a1)))) := by
 intro m_l4
 induction m_l4 with
 | zero => intro i3; exact SimL.zero'  rfl
 | succ m_l4 ih_l4 =>
  intro i3
  refine SimL.succ ?_
  unfold F89s0_l4
  refine Sim.seq (.rg [(0, .one (vw Hand.cod a0)), (1, .one (.fn 67 [.ptr 1000000 0])), (7, qj ((a0).length : Int)), (8, qj i3)] (W74 a1) (.ru 1 [] (.thenN (.seq (.cd _ ?_ ?_)))))
  ·refine Sim.skip (.thenN (.seq (.block (.su 2 [] (.sv 3 [] (.bn ⟨some 14, .iaddrS 2 12 13, none, []⟩ (fun x5 => [(14, .one (.eptr (Hand.cod.enc x5) 0))]) (fun x5 => []) (fun x5 hr => pe (ei (c := Hand.cod) (k := .i64) hr)) (fun x5 => ?_)))))))
   refine SimI.rv 1 [] (.bn ⟨some 16, .gcallv false false W125 [[]] 11 [15], none, []⟩ (fun r6 => [(16, qb r6)]) (fun r6 => (W74 a1)) (fun r6 hr => pe (gv (ks := [1000000]) (ARGS := [.agg [lj x5.Cell, lj x5.To], qp 1000000 0]) (caps := [.ptr 1000000 0]) (F67s0_ok _ _ _ _ hr))) (fun r6 => ?_))
   refine SimI.dn (.thenN (.cd _ ?_ ?_))
   ·exact Sim.su 2 [] (.ret (.blockR (.thenR (.loopR (.blockR (.thenR .fn))))))
   ·refine Sim.skip (.blockN (.thenN (.region0 (.ru 2 [] (.loopN (.pr [0, 1, 7, 8] [1000000] [] [(0, .one (vw Hand.cod a0)), (1, .one (.fn 67 [.ptr 1000000 0])), (7, qj ((a0).length : Int)), (8, qj (iw .i64 (i3 + 1)))] (W74 a1) ?_))))))
    exact ih_l4 (iw .i64 (i3 + 1))
  ·exact Sim.exit (.thenX (.loopX (.blockX (.thenN (.su 1 [] (.ret .fn))))))
def F89s0 (n : Nat) (a0 : (List Hand)) (a1 : Int) : Option Int :=
 F89s0_l4 n a0 a1 (n + 8) 0
theorem F89s0_ok (n : Nat) (a0 : (List Hand)) (a1 : Int) : ∀ r, F89s0 n a0 a1 = some r → D 89 [.one (vw Hand.cod a0), .one (.fn 67 [.ptr 1000000 0])] [.cells [li .i64 a1]] = some ((F89s0_e a0 a1) r) := by
 refine fn_to (D := D) (n := n + 8) (nt := 19) (rs := pc89_r) (c := p89c28) (L := [(0, .one (vw Hand.cod a0)), (1, .one (.fn 67 [.ptr 1000000 0]))]) (M := (W74 a1)) (k := 1) rfl rfl rfl rfl rfl rfl rfl ?_
 unfold F89s0
 refine Sim.su 1 [] (.seq (.su 3 [] (.block (.loop (.pr [0, 1, 7, 8] [1000000] [] [(0, .one (vw Hand.cod a0)), (1, .one (.fn 67 [.ptr 1000000 0])), (7, qj ((a0).length : Int)), (8, qj 0)] (W74 a1) ?_)))))
 exact F89s0_l4_ok n a0 a1 (n + 8) 0
def F66s0_e (a0 : (List Hand)) (a1 : Int) : Bool → PV × List Ob := fun r => (.one (lb r), [.cells [li .i64 a1]])
def F66s0 (n : Nat) (a0 : (List Hand)) (a1 : Int) : Option Bool :=
 (F89s0 n a0 a1).bind fun (r1 : Int) =>
 some (decide ((0 : Int) ≤ r1))
theorem F66s0_ok (n : Nat) (a0 : (List Hand)) (a1 : Int) : ∀ r, F66s0 n a0 a1 = some r → D 66 [.one (vw Hand.cod a0), .one (.fn 67 [.ptr 1000000 0])] [.cells [li .i64 a1]] = some ((F66s0_e a0 a1) r) := by
 refine fn_to (D := D) (n := n + 8) (nt := 9) (rs := pc66_r) (c := p66c5) (L := [(0, .one (vw Hand.cod a0)), (1, .one (.fn 67 [.ptr 1000000 0]))]) (M := (W74 a1)) (k := 1) rfl rfl rfl rfl rfl rfl rfl ?_
 unfold F66s0
 refine Sim.su 1 [] (.sv 2 [] (.bn ⟨some 7, .gcall false false W125 [[(0, 2)], []] 89 [5, 6], none, []⟩ (fun r1 => [(7, qj r1)]) (fun r1 => (W74 a1)) (fun r1 hr => pe (gq (ks := [1000000]) (ARGS := [.one (vw Hand.cod a0), .one (.fn 67 [.ptr 1000000 0])]) (F89s0_ok _ _ _ _ hr))) (fun r1 => ?_)))
 exact SimI.ru 2 [] (.thenN (.ret .fn))
def F91_e : Bool → PV × List Ob := fun r => (.one (lb r), [])
def F91 (n : Nat) (a0 : Field) : Option Bool :=
 (F61 n a0).bind fun (r1 : Bool) =>
 some (!(r1))
theorem F91_ok (n : Nat) (a0 : Field) : ∀ r, F91 n a0 = some r → D 91 [.agg [li .i64 a0.N, ls a0.Text]] [] = some (F91_e r) := by
 refine fn_to (D := D) (n := n + 8) (nt := 6) (rs := pc91_r) (c := p91c5) (L := [(0, .agg [lj a0.N, ls a0.Text])]) (M := []) (k := 0) rfl rfl rfl rfl rfl rfl rfl ?_
 unfold F91
 refine Sim.su 2 (W128 a0) (.sv 1 [] (.cl 4 true [[]] 61 [3] none (fun r1 => qb r1) [.agg [lj a0.N, ls a0.Text]] (F61_ok _ _) (fun r1 => ?_)))
 exact SimI.ru 2 [] (.thenN (.ret .fn))
def F97s0_e (a0 : (List Field)) : Int → PV × List Ob := fun r => (.one (li .i64 r), [])
def F97s0_l4 (n : Nat) (a0 : (List Field)) : Nat → Int → Option Int
 | 0, _ => none
 | m + 1, i3 =>
  if decide (i3 < ((a0).length : Int)) then
   (ix a0 i3).bind fun (x5 : Field) =>
   (F91 n x5).bind fun (r6 : Bool) =>
   if r6 then
    some i3
   else
    (F97s0_l4 n a0 m) (IntKind.wrap .i64 (i3 + 1))
  else
   some (-1)
theorem F97s0_l4_ok (n : Nat) (a0 : (List Field)) : ∀ (m : Nat) (i3 : Int), SimL Tryz.prog D (n + 8) m p97c20 [(0, .one (vw Field.cod a0)), (1, .one (.val (.func (.func 91) #[] #[]))), (7, qj ((a0).length : Int)), (8, qj i3)] [] (F97s0_l4 n a0 m i3) (QB 0 (QT Tryz.prog D (n + 8) p97c26 (QF false pc97_r 0 (F97s0_e a0)))) := by
 intro m_l4
 induction m_l4 with
 | zero => intro i3; exact SimL.zero'  rfl
 | succ m_l4 ih_l4 =>
  intro i3
  refine SimL.succ ?_
  unfold F97s0_l4
  refine Sim.seq (.rg [(0, .one (vw Field.cod a0)), (1, .one (.val (.func (.func 91) #[] #[]))), (7, qj ((a0).length : Int)), (8, qj i3)] [] (.ru 1 [] (.thenN (.seq (.cd _ ?_ ?_)))))
  ·refine Sim.skip (.thenN (.seq (.block (.su 2 [] (.sv 3 [] (.bn ⟨some 14, .iaddrS 2 12 13, none, []⟩ (fun x5 => [(14, .one (.eptr (Field.cod.enc x5) 0))]) (fun x5 => []) (fun x5 hr => pe (ei (c := Field.cod) (k := .i64) hr)) (fun x5 => ?_)))))))
   refine SimI.rv 1 [] (.bn ⟨some 16, .callv true [[]] 11 [15], none, []⟩ (fun r6 => [(16, qb r6)]) (fun r6 => []) (fun r6 hr => pe (eff_callvv (by kernel_rfl) (ARGS := [.agg [lj x5.N, ls x5.Text]]) (by kernel_rfl) (args_clean (by kernel_rfl) args_nil) (F91_ok _ _ _ hr) (by kernel_rfl))) (fun r6 => ?_))
   refine SimI.dn (.thenN (.cd _ ?_ ?_))
   ·exact Sim.su 2 [] (.ret (.blockR (.thenR (.loopR (.blockR (.thenR .fn))))))
   ·refine Sim.skip (.blockN (.thenN (.region0 (.ru 2 [] (.loopN (.pr [0, 1, 7, 8] [] [] [(0, .one (vw Field.cod a0)), (1, .one (.val (.func (.func 91) #[] #[]))), (7, qj ((a0).length : Int)), (8, qj (iw .i64 (i3 + 1)))] [] ?_))))))
    exact ih_l4 (iw .i64 (i3 + 1))
  ·exact Sim.exit (.thenX (.loopX (.blockX (.thenN (.su 1 [] (.ret .fn))))))
def F97s0 (n : Nat) (a0 : (List Field)) : Option Int :=
 F97s0_l4 n a0 (n + 8) 0
theorem F97s0_ok (n : Nat) (a0 : (List Field)) : ∀ r, F97s0 n a0 = some r → D 97 [.one (vw Field.cod a0), .one (.val (.func (.func 91) #[] #[]))] [] = some ((F97s0_e a0) r) := by
 refine fn_to (D := D) (n := n + 8) (nt := 19) (rs := pc97_r) (c := p97c28) (L := [(0, .one (vw Field.cod a0)), (1, .one (.val (.func (.func 91) #[] #[])))]) (M := []) (k := 0) rfl rfl rfl rfl rfl rfl rfl ?_
 unfold F97s0
 refine Sim.su 1 [] (.seq (.su 3 [] (.block (.loop (.pr [0, 1, 7, 8] [] [] [(0, .one (vw Field.cod a0)), (1, .one (.val (.func (.func 91) #[] #[]))), (7, qj ((a0).length : Int)), (8, qj 0)] [] ?_)))))
 exact F97s0_l4_ok n a0 (n + 8) 0
def F90s0_e (a0 : (List Field)) : Bool → PV × List Ob := fun r => (.one (lb r), [])
def F90s0 (n : Nat) (a0 : (List Field)) : Option Bool :=
 (F97s0 n a0).bind fun (r1 : Int) =>
 some (decide ((0 : Int) ≤ r1))
theorem F90s0_ok (n : Nat) (a0 : (List Field)) : ∀ r, F90s0 n a0 = some r → D 90 [.one (vw Field.cod a0), .one (.val (.func (.func 91) #[] #[]))] [] = some ((F90s0_e a0) r) := by
 refine fn_to (D := D) (n := n + 8) (nt := 9) (rs := pc90_r) (c := p90c5) (L := [(0, .one (vw Field.cod a0)), (1, .one (.val (.func (.func 91) #[] #[])))]) (M := []) (k := 0) rfl rfl rfl rfl rfl rfl rfl ?_
 unfold F90s0
 refine Sim.su 1 [] (.sv 2 [] (.bn ⟨some 7, .gcall false false W90 [[(0, 2)], []] 97 [5, 6], none, []⟩ (fun r1 => [(7, qj r1)]) (fun r1 => []) (fun r1 hr => pe (gq (ks := []) (ARGS := [.one (vw Field.cod a0), .one (.val (.func (.func 91) #[] #[]))]) (F97s0_ok _ _ _ hr))) (fun r1 => ?_)))
 exact SimI.ru 2 [] (.thenN (.ret .fn))
def F68_e : Bool → PV × List Ob := fun r => (.one (lb r), [])
def F68 (n : Nat) (a0 : Thing) : Option Bool :=
 if decide ((0 : Int) ≤ a0.ID) then
  if decide (a0.ID ≤ 1000000) then
   (F87 n a0.At).bind fun (r1 : Bool) =>
   if r1 then
    (F90s0 n [a0.F.a0, a0.F.a1, a0.F.a2, a0.F.a3]).bind fun (r2 : Bool) =>
    some (!(r2))
   else
    some false
  else
   some false
 else
  some false
theorem F68_ok (n : Nat) (a0 : Thing) : ∀ r, F68 n a0 = some r → D 68 [.agg (Thing.cells a0)] [] = some (F68_e r) := by
 refine fn_to (D := D) (n := n + 8) (nt := 22) (rs := pc68_r) (c := p68c5) (L := [(0, .agg (Thing.cells a0))]) (M := []) (k := 0) rfl rfl rfl rfl rfl rfl rfl ?_
 unfold F68
 refine Sim.su 2 (W11 a0) (.sv 4 [] (.sp 6 _ ?_ ?_))
 ·refine SimI.rv 5 [] (.sp 11 _ ?_ ?_)
  ·refine SimI.rv 2 [] (.cl 14 true [[]] 87 [13] (some (11, true)) (fun r1 => qb r1) (W119 a0) (F87_ok _ _) (fun r1 => ?_))
   refine SimI.rv 2 [] (.sp 16 _ ?_ ?_)
   ·refine SimI.rv 2 [] (.bn ⟨some 19, .gcall false false W14 [[(0, 2)], []] 90 [18, Operand.func 91], some (16, true), []⟩ (fun r2 => [(19, qb r2)]) (fun r2 => []) (fun r2 hr => pe (eff_gcall (ks := []) (rks := [1]) (new := []) (ARGS := [.one (.csl 1 2 3 4), .one (.val (.func (.func 91) #[] #[]))]) (args1 := (W116 a0)) (args2 := (W116 a0)) (os := []) (os' := []) (os1 := []) (res := qb r2) (res1 := qb r2) (r := qb r2) (N := []) (by kernel_rfl) (readA_ow (readA_csl (c := Field.cod) (k := 1) (off := 3) (cs := (Thing.cells a0)) (l := [a0.F.a0, a0.F.a1, a0.F.a2, a0.F.a3]) (by kernel_rfl) (by kernel_rfl) (by kernel_rfl) (by kernel_rfl) (readA_keep (by kernel_rfl) (readA_nil)))) (by kernel_rfl) (by kernel_rfl) (by kernel_rfl) (by kernel_rfl) (F90s0_ok _ _ _ hr) (by kernel_rfl) (by kernel_rfl) (by kernel_rfl) rfl (by kernel_rfl) (by kernel_rfl) (by kernel_rfl))) (fun r2 => ?_))
    exact SimI.ru 3 [] (.thenN (.ret .fn))
   ·exact SimI.ru 6 [] (.thenN (.ret .fn))
  ·exact SimI.ru 11 [] (.thenN (.ret .fn))
 ·exact SimI.ru 16 [] (.thenN (.ret .fn))
def F34_e : Bool → PV × List Ob := fun r => (.one (lb r), [])
def F34_l4 (n : Nat) (a0 : (List Thing)) (a1 : (List Hand)) (a2 : Bool) : Nat → Int → Option Bool
 | 0, _ => none
 | m + 1, i3 =>
  if decide (i3 < ((a0).length : Int)) then
   (ix a0 i3).bind fun (x5 : Thing) =>
   (F65 n x5.At).bind fun (r6 : (Int × Int)) =>
   (F66s0 n a1 r6.1).bind fun (r7 : Bool) =>
   (F68 n x5).bind fun (r8 : Bool) =>
   if !(r8) then
    some false
   else
    if decide ((0 : Int) < i3) then
     (ix a0 (IntKind.wrap .i64 (i3 - 1))).bind fun (x9 : Thing) =>
     if decide (x5.ID ≤ x9.ID) then
      some false
     else
      if !(r7 == a2) then
       some false
      else
       (F34_l4 n a0 a1 a2 m) (IntKind.wrap .i64 (i3 + 1))
    else
     if !(r7 == a2) then
      some false
     else
      (F34_l4 n a0 a1 a2 m) (IntKind.wrap .i64 (i3 + 1))
  else
   some (decide (((a0).length : Int) ≤ 200))
theorem F34_l4_ok (n : Nat) (a0 : (List Thing)) (a1 : (List Hand)) (a2 : Bool) : ∀ (m : Nat) (i3 : Int), SimL Tryz.prog D (n + 8) m p34c24 [(0, .one (vw Thing.cod a0)), (1, .one (vw Hand.cod a1)), (2, qb a2), (12, .one (vw Thing.cod a0)), (13, qj ((a0).length : Int)), (14, qj i3)] [] (F34_l4 n a0 a1 a2 m i3) (QB 0 (QT Tryz.prog D (n + 8) p34c30 (QF false pc34_r 0 F34_e))) := by
 intro m_l4
 induction m_l4 with
 | zero => intro i3; exact SimL.zero'  rfl
 | succ m_l4 ih_l4 =>
  intro i3
  refine SimL.succ ?_
  unfold F34_l4
  refine Sim.seq (.rg [(0, .one (vw Thing.cod a0)), (1, .one (vw Hand.cod a1)), (2, qb a2), (12, .one (vw Thing.cod a0)), (13, qj ((a0).length : Int)), (14, qj i3)] [] (.ru 1 [] (.thenN (.seq (.cd _ ?_ ?_)))))
  ·refine Sim.skip (.thenN (.seq (.block (.sv 1 [] (.bn ⟨some 17, .iaddrS 11 12 14, none, []⟩ (fun x5 => [(17, .one (.eptr (Thing.cod.enc x5) 0))]) (fun x5 => []) (fun x5 hr => pe (ei (c := Thing.cod) (k := .i64) hr)) (fun x5 => ?_))))))
   refine SimI.ru 4 [(8, some (.cells (Thing.cells x5))), (8, some (.cells W34))] (.thenN (.sv 2 [] (.cl 22 true [[]] 65 [21] none (fun r6 => .tup [qj r6.1, qj r6.2]) (W119 x5) (F65_ok _ _) (fun r6 => ?_))))
   refine SimI.ru 6 [(9, some (.cells [lj r6.1])), (9, some (.cells [lj 0]))] (.thenN (.sv 2 [] (.bn ⟨some 27, .gcall false false [9, 300000, 300001, 300002, 300003, 300004, 300005, 300006, 300007] [[(0, 2)], []] 66 [25, 26], none, []⟩ (fun r7 => [(27, qb r7)]) (fun r7 => [(9, some (.cells [lj r6.1]))]) (fun r7 hr => pe (gq (ks := [9]) (ARGS := [.one (vw Hand.cod a1), .one (.fn 67 [.ptr 9 0])]) (F66s0_ok _ _ _ _ hr))) (fun r7 => ?_))))
   refine SimI.ru 1 [] (.thenN (.sv 1 [] (.cm 29 false [[]] 68 [28] none [(28, .imm)] (F68_ok _ _) (fun r8 => ?_))))
   refine SimI.rv 2 [] (.sp 31 _ ?_ ?_)
   ·exact SimI.ru 19 [] (.thenN (.ct (.su 1 [] (.ret (.blockR (.thenR (.loopR (.blockR (.thenR .fn)))))))))
   ·refine SimI.rv 3 [] (.sp 34 _ ?_ ?_)
    ·refine SimI.rv 5 [] (.bn ⟨some 40, .iaddrS 11 37 39, some (34, true), [(37, .imm), (39, .imm)]⟩ (fun x9 => [(40, .one (.eptr (Thing.cod.enc x9) 0))]) (fun x9 => []) (fun x9 hr => pe (ei (c := Thing.cod) (k := .i64) hr)) (fun x9 => ?_))
     refine SimI.rv 6 [] (.sp 46 _ ?_ ?_)
     ·exact SimI.ru 4 [] (.thenN (.ct (.su 1 [] (.ret (.blockR (.thenR (.loopR (.blockR (.thenR .fn)))))))))
     ·refine SimI.ru 4 [] (.thenN (.cd _ ?_ ?_))
      ·exact Sim.su 1 [] (.ret (.blockR (.thenR (.loopR (.blockR (.thenR .fn))))))
      ·refine Sim.skip (.blockN (.thenN (.region0 (.ru 2 [] (.loopN (.pr [0, 1, 2, 12, 13, 14] [8, 9] [] [(0, .one (vw Thing.cod a0)), (1, .one (vw Hand.cod a1)), (2, qb a2), (12, .one (vw Thing.cod a0)), (13, qj ((a0).length : Int)), (14, qj (iw .i64 (i3 + 1)))] [] ?_))))))
       exact ih_l4 (iw .i64 (i3 + 1))
    ·refine SimI.ru 16 [] (.thenN (.cd _ ?_ ?_))
     ·exact Sim.su 1 [] (.ret (.blockR (.thenR (.loopR (.blockR (.thenR .fn))))))
     ·refine Sim.skip (.blockN (.thenN (.region0 (.ru 2 [] (.loopN (.pr [0, 1, 2, 12, 13, 14] [8, 9] [] [(0, .one (vw Thing.cod a0)), (1, .one (vw Hand.cod a1)), (2, qb a2), (12, .one (vw Thing.cod a0)), (13, qj ((a0).length : Int)), (14, qj (iw .i64 (i3 + 1)))] [] ?_))))))
      exact ih_l4 (iw .i64 (i3 + 1))
  ·exact Sim.exit (.thenX (.loopX (.blockX (.thenN (.su 4 [] (.ret .fn))))))
def F34 (n : Nat) (a0 : (List Thing)) (a1 : (List Hand)) (a2 : Bool) : Option Bool :=
 F34_l4 n a0 a1 a2 (n + 8) 0
theorem F34_ok (n : Nat) (a0 : (List Thing)) (a1 : (List Hand)) (a2 : Bool) : ∀ r, F34 n a0 a1 a2 = some r → D 34 [.one (vw Thing.cod a0), .one (vw Hand.cod a1), .one (lb a2)] [] = some (F34_e r) := by
 refine fn_to (D := D) (n := n + 8) (nt := 55) (rs := pc34_r) (c := p34c32) (L := [(0, .one (vw Thing.cod a0)), (1, .one (vw Hand.cod a1)), (2, qb a2)]) (M := []) (k := 0) rfl rfl rfl rfl rfl rfl rfl ?_
 unfold F34
 refine Sim.su 1 [] (.seq (.su 3 [] (.block (.loop (.pr [0, 1, 2, 12, 13, 14] [8, 9] [] [(0, .one (vw Thing.cod a0)), (1, .one (vw Hand.cod a1)), (2, qb a2), (12, .one (vw Thing.cod a0)), (13, qj ((a0).length : Int)), (14, qj 0)] [] ?_)))))
 exact F34_l4_ok n a0 a1 a2 (n + 8) 0
def F69s0_e (a0 : (List Command)) : Int → PV × List Ob := fun r => (.one (li .i64 r), [])
def F69s0_l4 (n : Nat) (a0 : (List Command)) : Nat → Int → Option Int
 | 0, _ => none
 | m + 1, i3 =>
  if decide (i3 < ((a0).length : Int)) then
   (ix a0 i3).bind fun (x5 : Command) =>
   (F30 n x5).bind fun (r6 : Bool) =>
   if r6 then
    some i3
   else
    (F69s0_l4 n a0 m) (IntKind.wrap .i64 (i3 + 1))
  else
   some (-1)
theorem F69s0_l4_ok (n : Nat) (a0 : (List Command)) : ∀ (m : Nat) (i3 : Int), SimL Tryz.prog D (n + 8) m p69c20 [(0, .one (vw Command.cod a0)), (1, .one (.val (.func (.func 30) #[] #[]))), (7, qj ((a0).length : Int)), (8, qj i3)] [] (F69s0_l4 n a0 m i3) (QB 0 (QT Tryz.prog D (n + 8) p69c26 (QF false pc69_r 0 (F69s0_e a0)))) := by
 intro m_l4
 induction m_l4 with
 | zero => intro i3; exact SimL.zero'  rfl
 | succ m_l4 ih_l4 =>
  intro i3
  refine SimL.succ ?_
  unfold F69s0_l4
  refine Sim.seq (.rg [(0, .one (vw Command.cod a0)), (1, .one (.val (.func (.func 30) #[] #[]))), (7, qj ((a0).length : Int)), (8, qj i3)] [] (.ru 1 [] (.thenN (.seq (.cd _ ?_ ?_)))))
  ·refine Sim.skip (.thenN (.seq (.block (.su 2 [] (.sv 3 [] (.bn ⟨some 14, .iaddrS 22 12 13, none, []⟩ (fun x5 => [(14, .one (.eptr (Command.cod.enc x5) 0))]) (fun x5 => []) (fun x5 hr => pe (ei (c := Command.cod) (k := .i64) hr)) (fun x5 => ?_)))))))
   refine SimI.rv 1 [] (.bn ⟨some 16, .callv true [[]] 11 [15], none, []⟩ (fun r6 => [(16, qb r6)]) (fun r6 => []) (fun r6 hr => pe (eff_callvv (by kernel_rfl) (ARGS := [.agg (Command.cells x5)]) (by kernel_rfl) (args_clean (by kernel_rfl) args_nil) (F30_ok _ _ _ hr) (by kernel_rfl))) (fun r6 => ?_))
   refine SimI.dn (.thenN (.cd _ ?_ ?_))
   ·exact Sim.su 2 [] (.ret (.blockR (.thenR (.loopR (.blockR (.thenR .fn))))))
   ·refine Sim.skip (.blockN (.thenN (.region0 (.ru 2 [] (.loopN (.pr [0, 1, 7, 8] [] [] [(0, .one (vw Command.cod a0)), (1, .one (.val (.func (.func 30) #[] #[]))), (7, qj ((a0).length : Int)), (8, qj (iw .i64 (i3 + 1)))] [] ?_))))))
    exact ih_l4 (iw .i64 (i3 + 1))
  ·exact Sim.exit (.thenX (.loopX (.blockX (.thenN (.su 1 [] (.ret .fn))))))
def F69s0 (n : Nat) (a0 : (List Command)) : Option Int :=
 F69s0_l4 n a0 (n + 8) 0
theorem F69s0_ok (n : Nat) (a0 : (List Command)) : ∀ r, F69s0 n a0 = some r → D 69 [.one (vw Command.cod a0), .one (.val (.func (.func 30) #[] #[]))] [] = some ((F69s0_e a0) r) := by
 refine fn_to (D := D) (n := n + 8) (nt := 19) (rs := pc69_r) (c := p69c28) (L := [(0, .one (vw Command.cod a0)), (1, .one (.val (.func (.func 30) #[] #[])))]) (M := []) (k := 0) rfl rfl rfl rfl rfl rfl rfl ?_
 unfold F69s0
 refine Sim.su 1 [] (.seq (.su 3 [] (.block (.loop (.pr [0, 1, 7, 8] [] [] [(0, .one (vw Command.cod a0)), (1, .one (.val (.func (.func 30) #[] #[]))), (7, qj ((a0).length : Int)), (8, qj 0)] [] ?_)))))
 exact F69s0_l4_ok n a0 (n + 8) 0
def F35s0_e (a0 : (List Command)) : Bool → PV × List Ob := fun r => (.one (lb r), [])
def F35s0 (n : Nat) (a0 : (List Command)) : Option Bool :=
 (F69s0 n a0).bind fun (r1 : Int) =>
 some (decide ((0 : Int) ≤ r1))
theorem F35s0_ok (n : Nat) (a0 : (List Command)) : ∀ r, F35s0 n a0 = some r → D 35 [.one (vw Command.cod a0), .one (.val (.func (.func 30) #[] #[]))] [] = some ((F35s0_e a0) r) := by
 refine fn_to (D := D) (n := n + 8) (nt := 9) (rs := pc35_r) (c := p35c5) (L := [(0, .one (vw Command.cod a0)), (1, .one (.val (.func (.func 30) #[] #[])))]) (M := []) (k := 0) rfl rfl rfl rfl rfl rfl rfl ?_
 unfold F35s0
 refine Sim.su 1 [] (.sv 2 [] (.bn ⟨some 7, .gcall false false W90 [[(0, 22)], []] 69 [5, 6], none, []⟩ (fun r1 => [(7, qj r1)]) (fun r1 => []) (fun r1 hr => pe (gq (ks := []) (ARGS := [.one (vw Command.cod a0), .one (.val (.func (.func 30) #[] #[]))]) (F69s0_ok _ _ _ hr))) (fun r1 => ?_)))
 exact SimI.ru 2 [] (.thenN (.ret .fn))
def F12_e : Bool → PV × List Ob := fun r => (.one (lb r), [])
def F12 (n : Nat) (a0 : Note) (a1 : Int) : Option Bool :=
 if decide (a0.From < 0) then
  some false
 else
  if decide (imin a1 4 ≤ a0.From) then
   some false
  else
   if decide (a0.Beat < 0) then
    some false
   else
    if decide ((1073741824 : Int) < a0.Beat) then
     some false
    else
     if decide ((20 : Int) < ((a0.Watch).length : Int)) then
      some false
     else
      (F33 n a0.Hands a0.From (imin a1 4)).bind fun (r1 : Bool) =>
      if r1 then
       (F34 n a0.Moved a0.Hands false).bind fun (r2 : Bool) =>
       if r2 then
        (F34 n a0.Given a0.Hands true).bind fun (r3 : Bool) =>
        if r3 then
         (F35s0 n a0.Watch).bind fun (r4 : Bool) =>
         some (!(r4))
        else
         some false
       else
        some false
      else
       some false
theorem F12_ok (n : Nat) (a0 : Note) (a1 : Int) : ∀ r, F12 n a0 a1 = some r → D 12 [.agg [li .i64 a0.From, li .i64 a0.Beat, vw Thing.cod a0.Moved, vw Hand.cod a0.Hands, vw Thing.cod a0.Given, vw Command.cod a0.Watch], .one (li .i64 a1)] [] = some (F12_e r) := by
 refine fn_to (D := D) (n := n + 8) (nt := 60) (rs := pc12_r) (c := p12c17) (L := [(0, .agg (w0 a0)), (1, qj a1)]) (M := []) (k := 0) rfl rfl rfl rfl rfl rfl rfl ?_
 unfold F12
 refine Sim.su 2 [(2, some (.cells (w0 a0)))] (.su 3 [] (.seq (.sv 4 [] (.sp 11 _ ?_ ?_))))
 ·exact SimI.ru 21 [] (.thenN (.ct (.su 1 [] (.ret (.thenR .fn)))))
 ·refine SimI.rv 6 [] (.sp 17 _ ?_ ?_)
  ·exact SimI.ru 15 [] (.thenN (.ct (.su 1 [] (.ret (.thenR .fn)))))
  ·refine SimI.rv 5 [] (.sp 22 _ ?_ ?_)
   ·exact SimI.ru 10 [] (.thenN (.ct (.su 1 [] (.ret (.thenR .fn)))))
   ·refine SimI.rv 5 [] (.sp 27 _ ?_ ?_)
    ·exact SimI.ru 5 [] (.thenN (.ct (.su 1 [] (.ret (.thenR .fn)))))
    ·refine SimI.ru 5 [] (.thenN (.cd _ ?_ ?_))
     ·exact Sim.su 1 [] (.ret (.thenR .fn))
     ·refine Sim.skip (.thenN (.su 1 [] (.sv 5 [] (.cl 38 true [[(0, 2)], [], []] 33 [34, 36, 37] none (fun r1 => qb r1) [.one (vw Hand.cod a0.Hands), qj a0.From, qj (imin a1 4)] (F33_ok _ _ _ _) (fun r1 => ?_)))))
      refine SimI.rv 1 [] (.sp 39 _ ?_ ?_)
      ·refine SimI.rv 4 [] (.cl 44 true [[(0, 11)], [(0, 2)], []] 34 [41, 43, kf] (some (39, true)) (fun r2 => qb r2) [.one (vw Thing.cod a0.Moved), .one (vw Hand.cod a0.Hands), qb false] (F34_ok _ _ _ _) (fun r2 => ?_))
       refine SimI.rv 2 [] (.sp 46 _ ?_ ?_)
       ·refine SimI.rv 4 [] (.cl 51 true [[(0, 11)], [(0, 2)], []] 34 [48, 50, kt] (some (46, true)) (fun r3 => qb r3) [.one (vw Thing.cod a0.Given), .one (vw Hand.cod a0.Hands), qb true] (F34_ok _ _ _ _) (fun r3 => ?_))
        refine SimI.rv 2 [] (.sp 53 _ ?_ ?_)
        ·refine SimI.rv 3 [] (.bn ⟨some 57, .gcall false false W90 [[(0, 22)], []] 35 [55, 56], some (53, true), []⟩ (fun r4 => [(57, qb r4)]) (fun r4 => []) (fun r4 hr => pe (gq (ks := []) (ARGS := [.one (vw Command.cod a0.Watch), .one (.val (.func (.func 30) #[] #[]))]) (F35s0_ok _ _ _ hr))) (fun r4 => ?_))
         exact SimI.ru 3 [] (.thenN (.ret .fn))
        ·exact SimI.ru 7 [] (.thenN (.ret .fn))
       ·exact SimI.ru 14 [] (.thenN (.ret .fn))
      ·exact SimI.ru 21 [] (.thenN (.ret .fn))
def F18_e : ByteArray → PV × List Ob := fun r => (.one (ls r), [])
def F18_l7 (n : Nat) : Nat → Int → (List Int) → Option ByteArray
 | 0, _, _ => none
 | m + 1, i5, l6 =>
  if decide ((128 : Int) ≤ i5) then
   if ((l6).length + 1) * 1 ≤ maxCells ∧ (l6).length + 1 ≤ maxCells then
    (F18_l7 n m) (shrI .u64 i5 7) (l6 ++ [bitsI .or .u8 (IntKind.wrap .u8 i5) 128])
   else none
  else
   if ((l6).length + 1) * 1 ≤ maxCells ∧ (l6).length + 1 ≤ maxCells then
    some (mkStr (l6 ++ [IntKind.wrap .u8 i5]))
   else none
theorem F18_l7_ok (n : Nat) : ∀ (m : Nat) (i5 : Int) (l6 : (List Int)), SimL Tryz.prog D (n + 8) m p18c12 [(0, .one (li .u64 i5)), (3, .one (.osl 100003 0 0 (l6).length))] [(100003, some (.arr 5 (codI .u8).sz 0 (l6).length (getOf (codI .u8) l6)))] (F18_l7 n m i5 l6) (QB 0 (QT Tryz.prog D (n + 8) p18c17 (QF false pc18_r 0 F18_e))) := by
 intro m_l7
 induction m_l7 with
 | zero => intro i5 l6; exact SimL.zero'  rfl
 | succ m_l7 ih_l7 =>
  intro i5 l6
  refine SimL.succ ?_
  unfold F18_l7
  refine Sim.seq (.seq (.rg [(0, .one (li .u64 i5)), (3, .one (.osl 100003 0 0 (l6).length))] [(100003, some (.arr 5 (codI .u8).sz 0 (l6).length (getOf (codI .u8) l6)))] (.ru 2 [] (.thenN (.cd _ ?_ ?_)))))
  ·refine Sim.skip (.thenN (.block (.sv 5 [] (.gu ⟨some 11, .app 100003 5 1 1 6 10, none, []⟩ [(11, .one (.osl 100003 (0 + 1) 0 ((l6 ++ [bitsI .or .u8 (iw .u8 i5) 128])).length))] [(100003, some (.arr 5 (codI .u8).sz (0 + 1) ((l6 ++ [bitsI .or .u8 (iw .u8 i5) 128])).length (getOf (codI .u8) (l6 ++ [bitsI .or .u8 (iw .u8 i5) 128]))))] (fun hc => pe (eff_appO (c := (codI .u8)) (g := 0) (l := l6) (a := bitsI .or .u8 (iw .u8 i5) 128) (by kernel_rfl) (by kernel_rfl) (by kernel_rfl) (by kernel_rfl) hc)) (.ru 1 [] (.thenN (.region0 (.ru 3 [] (.blockN (.loopN (.pr [0, 3] [100003] [(false, 3, 0, 100003, 5, 1)] [(0, .one (li .u64 (shrI .u64 i5 7))), (3, .one (.osl 100003 0 0 ((l6 ++ [bitsI .or .u8 (iw .u8 i5) 128])).length))] [(100003, some (.arr 5 (codI .u8).sz 0 ((l6 ++ [bitsI .or .u8 (iw .u8 i5) 128])).length (getOf (codI .u8) (l6 ++ [bitsI .or .u8 (iw .u8 i5) 128]))))] ?_)))))))))))
   exact ih_l7 (shrI .u64 i5 7) (l6 ++ [bitsI .or .u8 (iw .u8 i5) 128])
  ·exact Sim.exit (.thenX (.loopX (.blockX (.thenN (.sv 4 [] (.gu ⟨some 18, .app 100003 5 1 1 14 17, none, []⟩ [(18, .one (.osl 100003 (0 + 1) 0 ((l6 ++ [IntKind.wrap .u8 i5])).length))] [(100003, some (.arr 5 (codI .u8).sz (0 + 1) ((l6 ++ [IntKind.wrap .u8 i5])).length (getOf (codI .u8) (l6 ++ [IntKind.wrap .u8 i5]))))] (fun hc => pe (eff_appO (c := (codI .u8)) (g := 0) (l := l6) (a := IntKind.wrap .u8 i5) (by kernel_rfl) (by kernel_rfl) (by kernel_rfl) (by kernel_rfl) hc)) (.se ⟨some 19, .b2s 18, none, []⟩ [(19, qs (mkStr (l6 ++ [IntKind.wrap .u8 i5])))] [] (pe (eff_b2sO (l := (l6 ++ [IntKind.wrap .u8 i5])) (k := 100003) (g := (0 + 1)) (el := 5) (by kernel_rfl) (by kernel_rfl))) (.ru 1 [] (.thenN (.ret .fn))))))))))
def F18 (n : Nat) (a0 : Int) : Option ByteArray :=
 F18_l7 n (n + 8) a0 ([] : List Int)
theorem F18_ok (n : Nat) (a0 : Int) : ∀ r, F18 n a0 = some r → D 18 [.one (li .u64 a0)] [] = some (F18_e r) := by
 refine fn_to (D := D) (n := n + 8) (nt := 20) (rs := pc18_r) (c := p18c20) (L := [(0, .one (li .u64 a0))]) (M := []) (k := 0) rfl rfl rfl rfl rfl rfl rfl ?_
 unfold F18
 refine Sim.su 1 [] (.su 1 [] (.seq (.block (.loop (.pr [0, 3] [100003] [(false, 3, 0, 100003, 5, 1)] [(0, .one (li .u64 a0)), (3, .one (.osl 100003 0 0 (([] : List Int)).length))] [(100003, some (.arr 5 (codI .u8).sz 0 (([] : List Int)).length (getOf (codI .u8) ([] : List Int))))] ?_)))))
 exact F18_l7_ok n (n + 8) a0 ([] : List Int)
def F73_e : Int → PV × List Ob := fun r => (.one (li .u64 r), [])
def F73 (n : Nat) (a0 : Int) : Option Int :=
 some (bitsI .xor .u64 (shlI .u64 (IntKind.wrap .u64 a0) 1) (IntKind.wrap .u64 (shrI .i64 a0 63)))
theorem F73_ok (n : Nat) (a0 : Int) : ∀ r, F73 n a0 = some r → D 73 [.one (li .i64 a0)] [] = some (F73_e r) := by
 refine fn_to (D := D) (n := n + 8) (nt := 10) (rs := pc73_r) (c := p73c5) (L := [(0, qj a0)]) (M := []) (k := 0) rfl rfl rfl rfl rfl rfl rfl ?_
 unfold F73
 exact Sim.su 1 [] (.su 8 [] (.ret .fn))
def F42_e : ByteArray → PV × List Ob := fun r => (.one (ls r), [])
def F42 (n : Nat) (a0 : Int) : Option ByteArray :=
 (F73 n a0).bind fun (r1 : Int) =>
 (F18 n r1).bind fun (r2 : ByteArray) =>
 some r2
theorem F42_ok (n : Nat) (a0 : Int) : ∀ r, F42 n a0 = some r → D 42 [.one (li .i64 a0)] [] = some (F42_e r) := by
 refine fn_to (D := D) (n := n + 8) (nt := 6) (rs := pc42_r) (c := p42c5) (L := [(0, qj a0)]) (M := []) (k := 0) rfl rfl rfl rfl rfl rfl rfl ?_
 unfold F42
 refine Sim.su 1 [] (.sv 1 [] (.cl 4 true [[]] 73 [3] none (fun r1 => .one (li .u64 r1)) [qj a0] (F73_ok _ _) (fun r1 => ?_)))
 refine SimI.cl 5 true [[]] 18 [4] none _ _ (F18_ok _ _) (fun r2 => ?_)
 exact SimI.ru 1 [] (.thenN (.ret .fn))
def F45_e : ByteArray → PV × List Ob := fun r => (.one (ls r), [])
def F45 (n : Nat) (a0 : ByteArray) : Option ByteArray :=
 (F18 n (IntKind.wrap .u64 (a0.size : Int))).bind fun (r1 : ByteArray) =>
 if r1.size + a0.size ≤ 9223372036854775807 then
  some (r1 ++ a0)
 else none
theorem F45_ok (n : Nat) (a0 : ByteArray) : ∀ r, F45 n a0 = some r → D 45 [.one (ls a0)] [] = some (F45_e r) := by
 refine fn_to (D := D) (n := n + 8) (nt := 9) (rs := pc45_r) (c := p45c5) (L := [(0, qs a0)]) (M := []) (k := 0) rfl rfl rfl rfl rfl rfl rfl ?_
 unfold F45
 refine Sim.su 1 [] (.sv 3 [] (.cl 6 true [[]] 18 [5] none (fun r1 => qs r1) [.one (li .u64 (iw .u64 (a0.size : Int)))] (F18_ok _ _) (fun r1 => ?_)))
 exact SimI.rv 1 [] (.gp 8 (.bin .add 9 false false) [6, 7] none [] (fun hc => pr_addS _ _ _ r1 a0 hc) (.ru 1 [] (.thenN (.ret .fn))))
def F93_e : Bool → PV × List Ob := fun r => (.one (lb r), [])
def F93 (n : Nat) (a0 a1 : Int) : Option Bool :=
 if ¬ (IntKind.wrap .i64 (a1 + 1) < 0) then
  some ((bitsI .and .u8 (shrI .u8 a0 (IntKind.wrap .i64 (a1 + 1))) 1) == 1)
 else none
theorem F93_ok (n : Nat) (a0 a1 : Int) : ∀ r, F93 n a0 a1 = some r → D 93 [.one (li .u8 a0), .one (li .i64 a1)] [] = some (F93_e r) := by
 refine fn_to (D := D) (n := n + 8) (nt := 11) (rs := pc93_r) (c := p93c5) (L := [(0, .one (li .u8 a0)), (1, qj a1)]) (M := []) (k := 0) rfl rfl rfl rfl rfl rfl rfl ?_
 unfold F93
 exact Sim.su 1 [] (.sv 3 [] (.gp 8 (.bin .shr 5 false false) [5, 7] none [] (fun hc => pr_shr _ _ _ .u8 .i64 a0 (iw .i64 (a1 + 1)) hc) (.ru 3 [] (.thenN (.ret .fn)))))
def F92_e : Bool → PV × List Ob := fun r => (.one (lb r), [])
def F92_u15 (n : Nat) : Option Bool :=
  some true
theorem F92_u15_ok (n : Nat) (a0 : Delta) : SimL Tryz.prog D (n + 8) (n + 4) p92c34 [(1, qp 1 0), (40, .agg (A4_Field.cells a0.F)), (41, qj 4)] (W5 a0) (F92_u15 n) (QB 0 (QT Tryz.prog D (n + 8) p92c40 (QF false pc92_r 0 F92_e))) := by
  unfold F92_u15
  exact SimL.succ (.seq (.rg (w8 a0) (W5 a0) (.ru 1 [] (.thenN (.seq (.cf (.exit (.thenX (.loopX (.blockX (.thenN (.su 1 [] (.ret .fn)))))))))))))
def F92_u12 (n : Nat) (a0 : Delta) : Option Bool :=
  (F61 n a0.F.a3).bind fun (r13 : Bool) =>
  if !(r13) then
   some false
  else
   (F93 n a0.Mask 3).bind fun (r14 : Bool) =>
   if !(r14) then
    if !(Field.eqb a0.F.a3 (Field.mk 0 ByteArray.empty)) then
     some false
    else
     F92_u15 n
   else
    F92_u15 n
theorem F92_u12_ok (n : Nat) (a0 : Delta) : SimL Tryz.prog D (n + 8) (n + 5) p92c34 [(1, qp 1 0), (40, .agg (A4_Field.cells a0.F)), (41, qj 3)] (W5 a0) (F92_u12 n a0) (QB 0 (QT Tryz.prog D (n + 8) p92c40 (QF false pc92_r 0 F92_e))) := by
  unfold F92_u12
  refine SimL.succ (.seq (.rg (w9 a0) (W5 a0) (.ru 1 [] (.thenN (.seq (.ct (.skip (.thenN (.seq (.block (.su 5 [(4, some (.cells [lj a0.F.a3.N, ls a0.F.a3.Text])), (4, some (.cells [lj 0, ls be]))] (.sv 1 [] (.cl 46 true [[]] 61 [45] none (fun r13 => qb r13) [.agg [lj a0.F.a3.N, ls a0.F.a3.Text]] (F61_ok _ _) (fun r13 => ?_))))))))))))))
  refine SimI.rv 2 [] (.sp 48 _ ?_ ?_)
  ·exact SimI.ru 11 [] (.thenN (.ct (.su 1 [] (.ret (.blockR (.thenR (.loopR (.blockR (.thenR .fn)))))))))
  ·refine SimI.rv 3 [] (.cl 52 true [[], []] 93 [50, 51] (some (48, false)) (fun r14 => qb r14) [.one (li .u8 a0.Mask), qj 3] (F93_ok _ _ _) (fun r14 => ?_))
   refine SimI.rv 2 [] (.sp 54 _ ?_ ?_)
   ·refine SimI.rv 2 [] (.se ⟨some 57, .prim (.bin .neq 44 false false) [55, 56], some (54, true), []⟩ [(57, qb (!(Field.eqb a0.F.a3 (Field.mk 0 be))))] [] (pe (ep (Field_eqn a0.F.a3 (Field.mk 0 be) _ _))) (.ru 2 [] (.thenN (.cd _ ?_ ?_))))
    ·exact Sim.su 1 [] (.ret (.blockR (.thenR (.loopR (.blockR (.thenR .fn))))))
    ·refine Sim.skip (.blockN (.thenN (.region0 (.ru 2 [] (.loopN (.pr [1, 40, 41] [1, 4] [] (w8 a0) (W5 a0) ?_))))))
     exact F92_u15_ok n a0
   ·refine SimI.ru 5 [] (.thenN (.cf (.skip (.blockN (.thenN (.region0 (.ru 2 [] (.loopN (.pr [1, 40, 41] [1, 4] [] (w8 a0) (W5 a0) ?_)))))))))
    exact F92_u15_ok n a0
def F92_u9 (n : Nat) (a0 : Delta) : Option Bool :=
  (F61 n a0.F.a2).bind fun (r10 : Bool) =>
  if !(r10) then
   some false
  else
   (F93 n a0.Mask 2).bind fun (r11 : Bool) =>
   if !(r11) then
    if !(Field.eqb a0.F.a2 (Field.mk 0 ByteArray.empty)) then
     some false
    else
     F92_u12 n a0
   else
    F92_u12 n a0
theorem F92_u9_ok (n : Nat) (a0 : Delta) : SimL Tryz.prog D (n + 8) (n + 6) p92c34 [(1, qp 1 0), (40, .agg (A4_Field.cells a0.F)), (41, qj 2)] (W5 a0) (F92_u9 n a0) (QB 0 (QT Tryz.prog D (n + 8) p92c40 (QF false pc92_r 0 F92_e))) := by
  unfold F92_u9
  refine SimL.succ (.seq (.rg (w10 a0) (W5 a0) (.ru 1 [] (.thenN (.seq (.ct (.skip (.thenN (.seq (.block (.su 5 [(4, some (.cells [lj a0.F.a2.N, ls a0.F.a2.Text])), (4, some (.cells [lj 0, ls be]))] (.sv 1 [] (.cl 46 true [[]] 61 [45] none (fun r10 => qb r10) [.agg [lj a0.F.a2.N, ls a0.F.a2.Text]] (F61_ok _ _) (fun r10 => ?_))))))))))))))
  refine SimI.rv 2 [] (.sp 48 _ ?_ ?_)
  ·exact SimI.ru 11 [] (.thenN (.ct (.su 1 [] (.ret (.blockR (.thenR (.loopR (.blockR (.thenR .fn)))))))))
  ·refine SimI.rv 3 [] (.cl 52 true [[], []] 93 [50, 51] (some (48, false)) (fun r11 => qb r11) [.one (li .u8 a0.Mask), qj 2] (F93_ok _ _ _) (fun r11 => ?_))
   refine SimI.rv 2 [] (.sp 54 _ ?_ ?_)
   ·refine SimI.rv 2 [] (.se ⟨some 57, .prim (.bin .neq 44 false false) [55, 56], some (54, true), []⟩ [(57, qb (!(Field.eqb a0.F.a2 (Field.mk 0 be))))] [] (pe (ep (Field_eqn a0.F.a2 (Field.mk 0 be) _ _))) (.ru 2 [] (.thenN (.cd _ ?_ ?_))))
    ·exact Sim.su 1 [] (.ret (.blockR (.thenR (.loopR (.blockR (.thenR .fn))))))
    ·refine Sim.skip (.blockN (.thenN (.region0 (.ru 2 [] (.loopN (.pr [1, 40, 41] [1, 4] [] (w9 a0) (W5 a0) ?_))))))
     exact F92_u12_ok n a0
   ·refine SimI.ru 5 [] (.thenN (.cf (.skip (.blockN (.thenN (.region0 (.ru 2 [] (.loopN (.pr [1, 40, 41] [1, 4] [] (w9 a0) (W5 a0) ?_)))))))))
    exact F92_u12_ok n a0
def F92_u6 (n : Nat) (a0 : Delta) : Option Bool :=
  (F61 n a0.F.a1).bind fun (r7 : Bool) =>
  if !(r7) then
   some false
  else
   (F93 n a0.Mask 1).bind fun (r8 : Bool) =>
   if !(r8) then
    if !(Field.eqb a0.F.a1 (Field.mk 0 ByteArray.empty)) then
     some false
    else
     F92_u9 n a0
   else
    F92_u9 n a0
theorem F92_u6_ok (n : Nat) (a0 : Delta) : SimL Tryz.prog D (n + 8) (n + 7) p92c34 [(1, qp 1 0), (40, .agg (A4_Field.cells a0.F)), (41, qj 1)] (W5 a0) (F92_u6 n a0) (QB 0 (QT Tryz.prog D (n + 8) p92c40 (QF false pc92_r 0 F92_e))) := by
  unfold F92_u6
  refine SimL.succ (.seq (.rg (w11 a0) (W5 a0) (.ru 1 [] (.thenN (.seq (.ct (.skip (.thenN (.seq (.block (.su 5 [(4, some (.cells [lj a0.F.a1.N, ls a0.F.a1.Text])), (4, some (.cells [lj 0, ls be]))] (.sv 1 [] (.cl 46 true [[]] 61 [45] none (fun r7 => qb r7) [.agg [lj a0.F.a1.N, ls a0.F.a1.Text]] (F61_ok _ _) (fun r7 => ?_))))))))))))))
  refine SimI.rv 2 [] (.sp 48 _ ?_ ?_)
  ·exact SimI.ru 11 [] (.thenN (.ct (.su 1 [] (.ret (.blockR (.thenR (.loopR (.blockR (.thenR .fn)))))))))
  ·refine SimI.rv 3 [] (.cl 52 true [[], []] 93 [50, 51] (some (48, false)) (fun r8 => qb r8) [.one (li .u8 a0.Mask), qj 1] (F93_ok _ _ _) (fun r8 => ?_))
   refine SimI.rv 2 [] (.sp 54 _ ?_ ?_)
   ·refine SimI.rv 2 [] (.se ⟨some 57, .prim (.bin .neq 44 false false) [55, 56], some (54, true), []⟩ [(57, qb (!(Field.eqb a0.F.a1 (Field.mk 0 be))))] [] (pe (ep (Field_eqn a0.F.a1 (Field.mk 0 be) _ _))) (.ru 2 [] (.thenN (.cd _ ?_ ?_))))
    ·exact Sim.su 1 [] (.ret (.blockR (.thenR (.loopR (.blockR (.thenR .fn))))))
    ·refine Sim.skip (.blockN (.thenN (.region0 (.ru 2 [] (.loopN (.pr [1, 40, 41] [1, 4] [] (w10 a0) (W5 a0) ?_))))))
     exact F92_u9_ok n a0
   ·refine SimI.ru 5 [] (.thenN (.cf (.skip (.blockN (.thenN (.region0 (.ru 2 [] (.loopN (.pr [1, 40, 41] [1, 4] [] (w10 a0) (W5 a0) ?_)))))))))
    exact F92_u9_ok n a0
def F92_j3 (n : Nat) (a0 : Delta) : Option Bool :=
  (F61 n a0.F.a0).bind fun (r4 : Bool) =>
  if !(r4) then
   some false
  else
   (F93 n a0.Mask 0).bind fun (r5 : Bool) =>
   if !(r5) then
    if !(Field.eqb a0.F.a0 (Field.mk 0 ByteArray.empty)) then
     some false
    else
     F92_u6 n a0
   else
    F92_u6 n a0
theorem F92_j3_ok (n : Nat) (a0 : Delta) : Sim Tryz.prog D (n + 8) p92c41 [(1, qp 1 0)] (W5 a0) (F92_j3 n a0) (QF false pc92_r 0 F92_e) := by
  unfold F92_j3
  refine Sim.seq (.seq (.rs (.ru 3 [] (.thenN (.block (.loop (.succ (.seq (.rg [(1, qp 1 0), (40, .agg (A4_Field.cells a0.F)), (41, qj 0)] (W5 a0) (.ru 1 [] (.thenN (.seq (.ct (.skip (.thenN (.seq (.block (.su 5 [(4, some (.cells [lj a0.F.a0.N, ls a0.F.a0.Text])), (4, some (.cells [lj 0, ls be]))] (.sv 1 [] (.cl 46 true [[]] 61 [45] none (fun r4 => qb r4) [.agg [lj a0.F.a0.N, ls a0.F.a0.Text]] (F61_ok _ _) (fun r4 => ?_)))))))))))))))))))))
  refine SimI.rv 2 [] (.sp 48 _ ?_ ?_)
  ·exact SimI.ru 11 [] (.thenN (.ct (.su 1 [] (.ret (.blockR (.thenR (.loopR (.blockR (.thenR .fn)))))))))
  ·refine SimI.rv 3 [] (.cl 52 true [[], []] 93 [50, 51] (some (48, false)) (fun r5 => qb r5) [.one (li .u8 a0.Mask), qj 0] (F93_ok _ _ _) (fun r5 => ?_))
   refine SimI.rv 2 [] (.sp 54 _ ?_ ?_)
   ·refine SimI.rv 2 [] (.se ⟨some 57, .prim (.bin .neq 44 false false) [55, 56], some (54, true), []⟩ [(57, qb (!(Field.eqb a0.F.a0 (Field.mk 0 be))))] [] (pe (ep (Field_eqn a0.F.a0 (Field.mk 0 be) _ _))) (.ru 2 [] (.thenN (.cd _ ?_ ?_))))
    ·exact Sim.su 1 [] (.ret (.blockR (.thenR (.loopR (.blockR (.thenR .fn))))))
    ·refine Sim.skip (.blockN (.thenN (.region0 (.ru 2 [] (.loopN (.pr [1, 40, 41] [1, 4] [] (w11 a0) (W5 a0) ?_))))))
     exact F92_u6_ok n a0
   ·refine SimI.ru 5 [] (.thenN (.cf (.skip (.blockN (.thenN (.region0 (.ru 2 [] (.loopN (.pr [1, 40, 41] [1, 4] [] (w11 a0) (W5 a0) ?_)))))))))
    exact F92_u6_ok n a0
def F92 (n : Nat) (a0 : Delta) : Option Bool :=
 if decide (a0.ID < 0) then
  some false
 else
  if decide ((1000000 : Int) < a0.ID) then
   some false
  else
   if a0.Mask == 0 then
    some false
   else
    if decide ((31 : Int) < a0.Mask) then
     some false
    else
     if (bitsI .and .u8 a0.Mask 1) == 0 then
      if !(Point.eqb a0.At (Point.mk 0 0)) then
       some false
      else
       (F87 n a0.At).bind fun (r1 : Bool) =>
       if !(r1) then
        some false
       else
        F92_j3 n a0
     else
      (F87 n a0.At).bind fun (r2 : Bool) =>
      if !(r2) then
       some false
      else
       F92_j3 n a0
theorem F92_ok (n : Nat) (a0 : Delta) : ∀ r, F92 n a0 = some r → D 92 [.agg (Delta.cells a0)] [] = some (F92_e r) := by
 refine fn_to (D := D) (n := n + 8) (nt := 61) (rs := pc92_r) (c := p92c44) (L := [(0, .agg (Delta.cells a0))]) (M := []) (k := 0) rfl rfl rfl rfl rfl rfl rfl ?_
 unfold F92
 refine Sim.su 2 (W5 a0) (.seq (.sv 4 [] (.sp 8 _ ?_ ?_)))
 ·exact SimI.ru 14 [] (.thenN (.ct (.su 1 [] (.ret (.thenR .fn)))))
 ·refine SimI.rv 5 [] (.sp 13 _ ?_ ?_)
  ·exact SimI.ru 9 [] (.thenN (.ct (.su 1 [] (.ret (.thenR .fn)))))
  ·refine SimI.rv 5 [] (.sp 18 _ ?_ ?_)
   ·exact SimI.ru 4 [] (.thenN (.ct (.su 1 [] (.ret (.thenR .fn)))))
   ·refine SimI.ru 4 [] (.thenN (.cd _ ?_ ?_))
    ·exact Sim.su 1 [] (.ret (.thenR .fn))
    ·refine Sim.skip (.thenN (.seq (.sv 5 [] (.sp 27 _ ?_ ?_))))
     ·refine SimI.rv 3 [] (.se ⟨some 31, .prim (.bin .neq 42 false false) [29, 30], some (27, true), []⟩ [(31, qb (!(Point.eqb a0.At (Point.mk 0 0))))] [] (pe (ep (Point_eqn a0.At (Point.mk 0 0) _ _))) (.rv 2 [] (.sp 33 _ ?_ ?_)))
      ·exact SimI.ru 5 [] (.thenN (.ct (.su 1 [] (.ret (.thenR .fn)))))
      ·refine SimI.rv 2 [] (.cl 36 true [[]] 87 [35] (some (33, false)) (fun r1 => qb r1) [.agg [lj a0.At.X, lj a0.At.Y]] (F87_ok _ _) (fun r1 => ?_))
       refine SimI.ru 2 [] (.thenN (.cd _ ?_ ?_))
       ·exact Sim.su 1 [] (.ret (.thenR .fn))
       ·refine Sim.skip (.thenN (.pr [1] [1] [] [(1, qp 1 0)] (W5 a0) ?_))
        exact F92_j3_ok n a0
     ·refine SimI.rv 8 [] (.cl 36 true [[]] 87 [35] (some (33, false)) (fun r2 => qb r2) [.agg [lj a0.At.X, lj a0.At.Y]] (F87_ok _ _) (fun r2 => ?_))
      refine SimI.ru 2 [] (.thenN (.cd _ ?_ ?_))
      ·exact Sim.su 1 [] (.ret (.thenR .fn))
      ·refine Sim.skip (.thenN (.pr [1] [1] [] [(1, qp 1 0)] (W5 a0) ?_))
       exact F92_j3_ok n a0
def F71_e : (ByteArray × Int) → PV × List Ob := fun r => (.tup [.one (ls r.1), .one (li .i64 r.2)], [])
def F71_u27 (n : Nat) (s26 : ByteArray) : Option (ByteArray × Int) :=
  some (s26, 0)
theorem F71_u27_ok (n : Nat) (a0 : Delta) (s26 : ByteArray) : SimL Tryz.prog D (n + 8) (n + 4) p71c39 (W120 s26 a0) (W5 a0) (F71_u27 n s26) (QB 0 (QT Tryz.prog D (n + 8) p71c45 (QF false pc71_r 0 F71_e))) := by
  unfold F71_u27
  exact SimL.succ (.seq (.rg (W120 s26 a0) (W5 a0) (.ru 1 [] (.thenN (.seq (.cf (.exit (.thenX (.loopX (.blockX (.thenN (.su 3 [] (.ret .fn)))))))))))))
def F71_u22 (n : Nat) (a0 : Delta) (s21 : ByteArray) : Option (ByteArray × Int) :=
  (F93 n a0.Mask 3).bind fun (r23 : Bool) =>
  if !(r23) then
   F71_u27 n s21
  else
   (F45 n a0.F.a3.Text).bind fun (r24 : ByteArray) =>
   if s21.size + r24.size ≤ 9223372036854775807 then
    if a0.F.a3.Text.toList == ByteArray.empty.toList then
     (F42 n a0.F.a3.N).bind fun (r25 : ByteArray) =>
     if (s21 ++ r24).size + r25.size ≤ 9223372036854775807 then
      F71_u27 n ((s21 ++ r24) ++ r25)
     else none
    else
     F71_u27 n (s21 ++ r24)
   else none
theorem F71_u22_ok (n : Nat) (a0 : Delta) (s21 : ByteArray) : SimL Tryz.prog D (n + 8) (n + 5) p71c39 (W121 s21 a0) (W5 a0) (F71_u22 n a0 s21) (QB 0 (QT Tryz.prog D (n + 8) p71c45 (QF false pc71_r 0 F71_e))) := by
  unfold F71_u22
  refine SimL.succ (.seq (.rg (W121 s21 a0) (W5 a0) (.ru 1 [] (.thenN (.seq (.ct (.skip (.thenN (.seq (.block (.su 5 [(6, some (.cells [lj a0.F.a3.N, ls a0.F.a3.Text])), (6, some (.cells [lj 0, ls be]))] (.seq (.sv 3 [] (.cl 45 true [[], []] 93 [43, 44] none (fun r23 => qb r23) [.one (li .u8 a0.Mask), qj 3] (F93_ok _ _ _) (fun r23 => ?_)))))))))))))))
  refine SimI.ru 1 [] (.thenN (.cd _ ?_ ?_))
  ·refine Sim.exit (.thenX (.blockX (.thenN (.region0 (.ru 2 [] (.loopN (.pr [1, 4, 37, 38] [1, 6] [] (W120 s21 a0) (W5 a0) ?_)))))))
   exact F71_u27_ok n a0 s21
  ·refine Sim.skip (.thenN (.sv 3 [] (.cl 50 true [[]] 45 [49] none (fun r24 => qs r24) [qs a0.F.a3.Text] (F45_ok _ _) (fun r24 => ?_))))
   refine SimI.gp 51 (.bin .add 9 false false) [47, 50] none [] (fun hc => pr_addS _ _ _ s21 r24 hc) (.ru 1 [] (.thenN (.su 3 [] (.cd _ ?_ ?_))))
   ·refine Sim.region0 (.rv 3 [] (.cl 58 true [[]] 42 [57] none (fun r25 => qs r25) [qj a0.F.a3.N] (F42_ok _ _) (fun r25 => ?_)))
    refine SimI.gp 59 (.bin .add 9 false false) [55, 58] none [] (fun hc => pr_addS _ _ _ (s21 ++ r24) r25 hc) (.ru 1 [] (.blockN (.thenN (.region0 (.ru 2 [] (.loopN (.pr [1, 4, 37, 38] [1, 6] [] [(1, qp 1 0), (4, qs ((s21 ++ r24) ++ r25)), (37, .agg (A4_Field.cells a0.F)), (38, qj 4)] (W5 a0) ?_)))))))
    exact F71_u27_ok n a0 ((s21 ++ r24) ++ r25)
   ·refine Sim.skip (.blockN (.thenN (.region0 (.ru 2 [] (.loopN (.pr [1, 4, 37, 38] [1, 6] [] [(1, qp 1 0), (4, qs (s21 ++ r24)), (37, .agg (A4_Field.cells a0.F)), (38, qj 4)] (W5 a0) ?_))))))
    exact F71_u27_ok n a0 (s21 ++ r24)
def F71_u17 (n : Nat) (a0 : Delta) (s16 : ByteArray) : Option (ByteArray × Int) :=
  (F93 n a0.Mask 2).bind fun (r18 : Bool) =>
  if !(r18) then
   F71_u22 n a0 s16
  else
   (F45 n a0.F.a2.Text).bind fun (r19 : ByteArray) =>
   if s16.size + r19.size ≤ 9223372036854775807 then
    if a0.F.a2.Text.toList == ByteArray.empty.toList then
     (F42 n a0.F.a2.N).bind fun (r20 : ByteArray) =>
     if (s16 ++ r19).size + r20.size ≤ 9223372036854775807 then
      F71_u22 n a0 ((s16 ++ r19) ++ r20)
     else none
    else
     F71_u22 n a0 (s16 ++ r19)
   else none
theorem F71_u17_ok (n : Nat) (a0 : Delta) (s16 : ByteArray) : SimL Tryz.prog D (n + 8) (n + 6) p71c39 (W122 s16 a0) (W5 a0) (F71_u17 n a0 s16) (QB 0 (QT Tryz.prog D (n + 8) p71c45 (QF false pc71_r 0 F71_e))) := by
  unfold F71_u17
  refine SimL.succ (.seq (.rg (W122 s16 a0) (W5 a0) (.ru 1 [] (.thenN (.seq (.ct (.skip (.thenN (.seq (.block (.su 5 [(6, some (.cells [lj a0.F.a2.N, ls a0.F.a2.Text])), (6, some (.cells [lj 0, ls be]))] (.seq (.sv 3 [] (.cl 45 true [[], []] 93 [43, 44] none (fun r18 => qb r18) [.one (li .u8 a0.Mask), qj 2] (F93_ok _ _ _) (fun r18 => ?_)))))))))))))))
  refine SimI.ru 1 [] (.thenN (.cd _ ?_ ?_))
  ·refine Sim.exit (.thenX (.blockX (.thenN (.region0 (.ru 2 [] (.loopN (.pr [1, 4, 37, 38] [1, 6] [] (W121 s16 a0) (W5 a0) ?_)))))))
   exact F71_u22_ok n a0 s16
  ·refine Sim.skip (.thenN (.sv 3 [] (.cl 50 true [[]] 45 [49] none (fun r19 => qs r19) [qs a0.F.a2.Text] (F45_ok _ _) (fun r19 => ?_))))
   refine SimI.gp 51 (.bin .add 9 false false) [47, 50] none [] (fun hc => pr_addS _ _ _ s16 r19 hc) (.ru 1 [] (.thenN (.su 3 [] (.cd _ ?_ ?_))))
   ·refine Sim.region0 (.rv 3 [] (.cl 58 true [[]] 42 [57] none (fun r20 => qs r20) [qj a0.F.a2.N] (F42_ok _ _) (fun r20 => ?_)))
    refine SimI.gp 59 (.bin .add 9 false false) [55, 58] none [] (fun hc => pr_addS _ _ _ (s16 ++ r19) r20 hc) (.ru 1 [] (.blockN (.thenN (.region0 (.ru 2 [] (.loopN (.pr [1, 4, 37, 38] [1, 6] [] [(1, qp 1 0), (4, qs ((s16 ++ r19) ++ r20)), (37, .agg (A4_Field.cells a0.F)), (38, qj 3)] (W5 a0) ?_)))))))
    exact F71_u22_ok n a0 ((s16 ++ r19) ++ r20)
   ·refine Sim.skip (.blockN (.thenN (.region0 (.ru 2 [] (.loopN (.pr [1, 4, 37, 38] [1, 6] [] [(1, qp 1 0), (4, qs (s16 ++ r19)), (37, .agg (A4_Field.cells a0.F)), (38, qj 3)] (W5 a0) ?_))))))
    exact F71_u22_ok n a0 (s16 ++ r19)
def F71_u12 (n : Nat) (a0 : Delta) (s11 : ByteArray) : Option (ByteArray × Int) :=
  (F93 n a0.Mask 1).bind fun (r13 : Bool) =>
  if !(r13) then
   F71_u17 n a0 s11
  else
   (F45 n a0.F.a1.Text).bind fun (r14 : ByteArray) =>
   if s11.size + r14.size ≤ 9223372036854775807 then
    if a0.F.a1.Text.toList == ByteArray.empty.toList then
     (F42 n a0.F.a1.N).bind fun (r15 : ByteArray) =>
     if (s11 ++ r14).size + r15.size ≤ 9223372036854775807 then
      F71_u17 n a0 ((s11 ++ r14) ++ r15)
     else none
    else
     F71_u17 n a0 (s11 ++ r14)
   else none
theorem F71_u12_ok (n : Nat) (a0 : Delta) (s11 : ByteArray) : SimL Tryz.prog D (n + 8) (n + 7) p71c39 (W123 s11 a0) (W5 a0) (F71_u12 n a0 s11) (QB 0 (QT Tryz.prog D (n + 8) p71c45 (QF false pc71_r 0 F71_e))) := by
  unfold F71_u12
  refine SimL.succ (.seq (.rg (W123 s11 a0) (W5 a0) (.ru 1 [] (.thenN (.seq (.ct (.skip (.thenN (.seq (.block (.su 5 [(6, some (.cells [lj a0.F.a1.N, ls a0.F.a1.Text])), (6, some (.cells [lj 0, ls be]))] (.seq (.sv 3 [] (.cl 45 true [[], []] 93 [43, 44] none (fun r13 => qb r13) [.one (li .u8 a0.Mask), qj 1] (F93_ok _ _ _) (fun r13 => ?_)))))))))))))))
  refine SimI.ru 1 [] (.thenN (.cd _ ?_ ?_))
  ·refine Sim.exit (.thenX (.blockX (.thenN (.region0 (.ru 2 [] (.loopN (.pr [1, 4, 37, 38] [1, 6] [] (W122 s11 a0) (W5 a0) ?_)))))))
   exact F71_u17_ok n a0 s11
  ·refine Sim.skip (.thenN (.sv 3 [] (.cl 50 true [[]] 45 [49] none (fun r14 => qs r14) [qs a0.F.a1.Text] (F45_ok _ _) (fun r14 => ?_))))
   refine SimI.gp 51 (.bin .add 9 false false) [47, 50] none [] (fun hc => pr_addS _ _ _ s11 r14 hc) (.ru 1 [] (.thenN (.su 3 [] (.cd _ ?_ ?_))))
   ·refine Sim.region0 (.rv 3 [] (.cl 58 true [[]] 42 [57] none (fun r15 => qs r15) [qj a0.F.a1.N] (F42_ok _ _) (fun r15 => ?_)))
    refine SimI.gp 59 (.bin .add 9 false false) [55, 58] none [] (fun hc => pr_addS _ _ _ (s11 ++ r14) r15 hc) (.ru 1 [] (.blockN (.thenN (.region0 (.ru 2 [] (.loopN (.pr [1, 4, 37, 38] [1, 6] [] [(1, qp 1 0), (4, qs ((s11 ++ r14) ++ r15)), (37, .agg (A4_Field.cells a0.F)), (38, qj 2)] (W5 a0) ?_)))))))
    exact F71_u17_ok n a0 ((s11 ++ r14) ++ r15)
   ·refine Sim.skip (.blockN (.thenN (.region0 (.ru 2 [] (.loopN (.pr [1, 4, 37, 38] [1, 6] [] [(1, qp 1 0), (4, qs (s11 ++ r14)), (37, .agg (A4_Field.cells a0.F)), (38, qj 2)] (W5 a0) ?_))))))
    exact F71_u17_ok n a0 (s11 ++ r14)
def F71_j7 (n : Nat) (a0 : Delta) (s6 : ByteArray) : Option (ByteArray × Int) :=
  (F93 n a0.Mask 0).bind fun (r8 : Bool) =>
  if !(r8) then
   F71_u12 n a0 s6
  else
   (F45 n a0.F.a0.Text).bind fun (r9 : ByteArray) =>
   if s6.size + r9.size ≤ 9223372036854775807 then
    if a0.F.a0.Text.toList == ByteArray.empty.toList then
     (F42 n a0.F.a0.N).bind fun (r10 : ByteArray) =>
     if (s6 ++ r9).size + r10.size ≤ 9223372036854775807 then
      F71_u12 n a0 ((s6 ++ r9) ++ r10)
     else none
    else
     F71_u12 n a0 (s6 ++ r9)
   else none
theorem F71_j7_ok (n : Nat) (a0 : Delta) (s6 : ByteArray) : Sim Tryz.prog D (n + 8) p71c46 [(1, qp 1 0), (4, qs s6)] (W5 a0) (F71_j7 n a0 s6) (QF false pc71_r 0 F71_e) := by
  unfold F71_j7
  refine Sim.seq (.seq (.rs (.ru 3 [] (.thenN (.block (.loop (.succ (.seq (.rg [(1, qp 1 0), (4, qs s6), (37, .agg (A4_Field.cells a0.F)), (38, qj 0)] (W5 a0) (.ru 1 [] (.thenN (.seq (.ct (.skip (.thenN (.seq (.block (.su 5 [(6, some (.cells [lj a0.F.a0.N, ls a0.F.a0.Text])), (6, some (.cells [lj 0, ls be]))] (.seq (.sv 3 [] (.cl 45 true [[], []] 93 [43, 44] none (fun r8 => qb r8) [.one (li .u8 a0.Mask), qj 0] (F93_ok _ _ _) (fun r8 => ?_))))))))))))))))))))))
  refine SimI.ru 1 [] (.thenN (.cd _ ?_ ?_))
  ·refine Sim.exit (.thenX (.blockX (.thenN (.region0 (.ru 2 [] (.loopN (.pr [1, 4, 37, 38] [1, 6] [] (W123 s6 a0) (W5 a0) ?_)))))))
   exact F71_u12_ok n a0 s6
  ·refine Sim.skip (.thenN (.sv 3 [] (.cl 50 true [[]] 45 [49] none (fun r9 => qs r9) [qs a0.F.a0.Text] (F45_ok _ _) (fun r9 => ?_))))
   refine SimI.gp 51 (.bin .add 9 false false) [47, 50] none [] (fun hc => pr_addS _ _ _ s6 r9 hc) (.ru 1 [] (.thenN (.su 3 [] (.cd _ ?_ ?_))))
   ·refine Sim.region0 (.rv 3 [] (.cl 58 true [[]] 42 [57] none (fun r10 => qs r10) [qj a0.F.a0.N] (F42_ok _ _) (fun r10 => ?_)))
    refine SimI.gp 59 (.bin .add 9 false false) [55, 58] none [] (fun hc => pr_addS _ _ _ (s6 ++ r9) r10 hc) (.ru 1 [] (.blockN (.thenN (.region0 (.ru 2 [] (.loopN (.pr [1, 4, 37, 38] [1, 6] [] [(1, qp 1 0), (4, qs ((s6 ++ r9) ++ r10)), (37, .agg (A4_Field.cells a0.F)), (38, qj 1)] (W5 a0) ?_)))))))
    exact F71_u12_ok n a0 ((s6 ++ r9) ++ r10)
   ·refine Sim.skip (.blockN (.thenN (.region0 (.ru 2 [] (.loopN (.pr [1, 4, 37, 38] [1, 6] [] [(1, qp 1 0), (4, qs (s6 ++ r9)), (37, .agg (A4_Field.cells a0.F)), (38, qj 1)] (W5 a0) ?_))))))
    exact F71_u12_ok n a0 (s6 ++ r9)
def F71 (n : Nat) (a0 : Delta) : Option (ByteArray × Int) :=
 (F92 n a0).bind fun (r1 : Bool) =>
 if !(r1) then
  some (ByteArray.empty, 11)
 else
  (F18 n (IntKind.wrap .u64 a0.ID)).bind fun (r2 : ByteArray) =>
  (F18 n (IntKind.wrap .u64 a0.Mask)).bind fun (r3 : ByteArray) =>
  if r2.size + r3.size ≤ 9223372036854775807 then
   if (bitsI .and .u8 a0.Mask 1) != 0 then
    (F18 n (IntKind.wrap .u64 a0.At.X)).bind fun (r4 : ByteArray) =>
    (F18 n (IntKind.wrap .u64 a0.At.Y)).bind fun (r5 : ByteArray) =>
    if r4.size + r5.size ≤ 9223372036854775807 then
     if (r2 ++ r3).size + (r4 ++ r5).size ≤ 9223372036854775807 then
      F71_j7 n a0 ((r2 ++ r3) ++ (r4 ++ r5))
     else none
    else none
   else
    F71_j7 n a0 (r2 ++ r3)
  else none
theorem F71_ok (n : Nat) (a0 : Delta) : ∀ r, F71 n a0 = some r → D 71 [.agg (Delta.cells a0)] [] = some (F71_e r) := by
 refine fn_to (D := D) (n := n + 8) (nt := 62) (rs := pc71_r) (c := p71c50) (L := [(0, .agg (Delta.cells a0))]) (M := []) (k := 0) rfl rfl rfl rfl rfl rfl rfl ?_
 unfold F71
 refine Sim.su 3 (W5 a0) (.seq (.sv 1 [] (.cl 8 true [[]] 92 [7] none (fun r1 => qb r1) [.agg (Delta.cells a0)] (F92_ok _ _) (fun r1 => ?_))))
 refine SimI.ru 1 [] (.thenN (.cd _ ?_ ?_))
 ·exact Sim.su 2 [] (.ret (.thenR .fn))
 ·refine Sim.skip (.thenN (.sv 3 [] (.cm 13 false [[]] 18 [12] none [(12, .imm)] (F18_ok _ _) (fun r2 => ?_))))
  refine SimI.rv 3 [] (.cm 17 false [[]] 18 [16] none [(16, .imm)] (F18_ok _ _) (fun r3 => ?_))
  refine SimI.gp 18 (.bin .add 9 false false) [13, 17] none [(13, .imm), (17, .imm)] (fun hc => pr_addS _ _ _ r2 r3 hc) (.ru 1 [] (.thenN (.seq (.su 4 [] (.cd _ ?_ ?_)))))
  ·refine Sim.region0 (.rv 5 [] (.cm 28 false [[]] 18 [27] none [(27, .imm)] (F18_ok _ _) (fun r4 => ?_)))
   refine SimI.rv 4 [] (.cm 33 false [[]] 18 [32] none [(32, .imm)] (F18_ok _ _) (fun r5 => ?_))
   refine SimI.gp 34 (.bin .add 9 false false) [28, 33] none [(28, .imm), (33, .imm)] (fun hc => pr_addS _ _ _ r4 r5 hc) (.gp 35 (.bin .add 9 false false) [23, 34] none [(23, .imm), (34, .imm)] (fun hc => pr_addS _ _ _ (r2 ++ r3) (r4 ++ r5) hc) (.ru 1 [] (.thenN (.pr [1, 4] [1] [] [(1, qp 1 0), (4, qs ((r2 ++ r3) ++ (r4 ++ r5)))] (W5 a0) ?_))))
   exact F71_j7_ok n a0 ((r2 ++ r3) ++ (r4 ++ r5))
  ·refine Sim.skip (.thenN (.pr [1, 4] [1] [] [(1, qp 1 0), (4, qs (r2 ++ r3))] (W5 a0) ?_))
   exact F71_j7_ok n a0 (r2 ++ r3)
def F40_e : (ByteArray × Int) → PV × List Ob := fun r => (.tup [.one (ls r.1), .one (li .i64 r.2)], [])
def F40 (n : Nat) (a0 : Thing) : Option (ByteArray × Int) :=
 (F68 n a0).bind fun (r1 : Bool) =>
 if !(r1) then
  some (ByteArray.empty, 11)
 else
  (F71 n (Delta.mk a0.ID 31 a0.At a0.F)).bind fun (r2 : (ByteArray × Int)) =>
  some (r2.1, r2.2)
theorem F40_ok (n : Nat) (a0 : Thing) : ∀ r, F40 n a0 = some r → D 40 [.agg (Thing.cells a0)] [] = some (F40_e r) := by
 refine fn_to (D := D) (n := n + 8) (nt := 17) (rs := pc40_r) (c := p40c13) (L := [(0, .agg (Thing.cells a0))]) (M := []) (k := 0) rfl rfl rfl rfl rfl rfl rfl ?_
 unfold F40
 refine Sim.su 3 (W11 a0) (.seq (.sv 1 [] (.cl 5 true [[]] 68 [4] none (fun r1 => qb r1) [.agg (Thing.cells a0)] (F68_ok _ _) (fun r1 => ?_))))
 refine SimI.ru 1 [] (.thenN (.cd _ ?_ ?_))
 ·exact Sim.su 2 [] (.ret (.thenR .fn))
 ·refine Sim.skip (.thenN (.sv 7 [] (.cl 14 true [[]] 71 [13] none (fun r2 => .tup [qs r2.1, qj r2.2]) [.agg [lj a0.ID, li .u8 31, lj a0.At.X, lj a0.At.Y, lj a0.F.a0.N, ls a0.F.a0.Text, lj a0.F.a1.N, ls a0.F.a1.Text, lj a0.F.a2.N, ls a0.F.a2.Text, lj a0.F.a3.N, ls a0.F.a3.Text]] (F71_ok _ _) (fun r2 => ?_))))
  exact SimI.ru 4 [] (.thenN (.ret .fn))
def F16_e : (ByteArray × Int) → PV × List Ob := fun r => (.tup [.one (ls r.1), .one (li .i64 r.2)], [])
def F16_l9 (n : Nat) (a0 : (List Thing)) : Nat → Int → (List Int) → Option (ByteArray × Int)
 | 0, _, _ => none
 | m + 1, i7, l8 =>
  if decide (i7 < ((a0).length : Int)) then
   (ix a0 i7).bind fun (x10 : Thing) =>
   (F40 n x10).bind fun (r11 : (ByteArray × Int)) =>
   if r11.2 != 0 then
    some (ByteArray.empty, 11)
   else
    if decide ((0 : Int) < i7) then
     (ix a0 (IntKind.wrap .i64 (i7 - 1))).bind fun (x12 : Thing) =>
     if decide (x10.ID ≤ x12.ID) then
      some (ByteArray.empty, 11)
     else
      (bldAdd l8 r11.1).bind fun (l13 : (List Int)) =>
      (F16_l9 n a0 m) (IntKind.wrap .i64 (i7 + 1)) l13
    else
     (bldAdd l8 r11.1).bind fun (l14 : (List Int)) =>
     (F16_l9 n a0 m) (IntKind.wrap .i64 (i7 + 1)) l14
  else
   (bldStr l8).bind fun (s15 : ByteArray) =>
   some (s15, 0)
theorem F16_l9_ok (n : Nat) (a0 : (List Thing)) : ∀ (m : Nat) (i7 : Int) (l8 : (List Int)), SimL Tryz.prog D (n + 8) m p16c33 [(0, .one (vw Thing.cod a0)), (4, qp 4 0), (17, .one (vw Thing.cod a0)), (18, qj ((a0).length : Int)), (19, qj i7)] (W19 l8) (F16_l9 n a0 m i7 l8) (QB 0 (QT Tryz.prog D (n + 8) p16c39 (QF false pc16_r 0 F16_e))) := by
 intro m_l9
 induction m_l9 with
 | zero => intro i7 l8; exact SimL.zero'  rfl
 | succ m_l9 ih_l9 =>
  intro i7 l8
  refine SimL.succ ?_
  unfold F16_l9
  refine Sim.seq (.rg [(0, .one (vw Thing.cod a0)), (4, qp 4 0), (17, .one (vw Thing.cod a0)), (18, qj ((a0).length : Int)), (19, qj i7)] (W19 l8) (.ru 1 [] (.thenN (.seq (.cd _ ?_ ?_)))))
  ·refine Sim.skip (.thenN (.seq (.block (.sv 1 [] (.bn ⟨some 22, .iaddrS 11 17 19, none, []⟩ (fun x10 => [(22, .one (.eptr (Thing.cod.enc x10) 0))]) (fun x10 => []) (fun x10 hr => pe (ei (c := Thing.cod) (k := .i64) hr)) (fun x10 => ?_))))))
   refine SimI.ru 4 [(6, some (.cells (Thing.cells x10))), (6, some (.cells W34))] (.thenN (.sv 1 [] (.cl 26 true [[]] 40 [25] none (fun r11 => .tup [qs r11.1, qj r11.2]) [.agg (Thing.cells x10)] (F40_ok _ _) (fun r11 => ?_))))
   refine SimI.ru 5 [] (.thenN (.seq (.sv 3 [] (.sp 31 _ ?_ ?_))))
   ·exact SimI.ru 14 [] (.thenN (.ct (.su 2 [] (.ret (.thenR (.blockR (.thenR (.loopR (.blockR (.thenR .fn))))))))))
   ·refine SimI.rv 3 [] (.sp 34 _ ?_ ?_)
    ·refine SimI.rv 5 [] (.bn ⟨some 40, .iaddrS 11 37 39, some (34, true), [(37, .imm), (39, .imm)]⟩ (fun x12 => [(40, .one (.eptr (Thing.cod.enc x12) 0))]) (fun x12 => []) (fun x12 hr => pe (ei (c := Thing.cod) (k := .i64) hr)) (fun x12 => ?_))
     refine SimI.ru 5 [] (.thenN (.cd _ ?_ ?_))
     ·exact Sim.su 2 [] (.ret (.thenR (.blockR (.thenR (.loopR (.blockR (.thenR .fn)))))))
     ·refine Sim.skip (.thenN (.region0 (.rv 1 [] (.bn ⟨some 47, .gcall false false W56 [[(1, 1)], []] 17 [4, 46], none, []⟩ (fun l13 => [(47, .tup [qj (r11.1.size : Int), .one (.val (.nilIface))])]) (fun l13 => (W49 l13)) (fun l13 hr => pe (gq (ks := [4, 400032]) (ARGS := [qp 4 0, qs r11.1]) (D_add (a := .ptr 1000000 0) (by kernel_rfl) (l := l8) (s := r11.1) l13 hr))) (fun l13 => ?_)))))
      refine SimI.dn (.blockN (.thenN (.region0 (.ru 2 [] (.loopN (.pr [0, 4, 17, 18, 19] [4, 6, 400032] [] (W117 a0 i7) (W19 l13) ?_))))))
      exact ih_l9 (iw .i64 (i7 + 1)) l13
    ·refine SimI.ru 11 [] (.thenN (.cf (.skip (.thenN (.region0 (.rv 1 [] (.bn ⟨some 47, .gcall false false W56 [[(1, 1)], []] 17 [4, 46], none, []⟩ (fun l14 => [(47, .tup [qj (r11.1.size : Int), .one (.val (.nilIface))])]) (fun l14 => (W49 l14)) (fun l14 hr => pe (gq (ks := [4, 400032]) (ARGS := [qp 4 0, qs r11.1]) (D_add (a := .ptr 1000000 0) (by kernel_rfl) (l := l8) (s := r11.1) l14 hr))) (fun l14 => ?_))))))))
     refine SimI.dn (.blockN (.thenN (.region0 (.ru 2 [] (.loopN (.pr [0, 4, 17, 18, 19] [4, 6, 400032] [] (W117 a0 i7) (W19 l14) ?_))))))
     exact ih_l9 (iw .i64 (i7 + 1)) l14
  ·refine Sim.exit (.thenX (.loopX (.blockX (.thenN (.seq (.region0 (.bn ⟨some 49, .gcall false false W56 [[(1, 1)]] 22 [4], none, []⟩ (fun s15 => [(49, qs s15)]) (fun s15 => [(4, some (.tcells 61 [.ptr 4 0, .osl 400032 (0 + 0) 0 (l8).length])), (400032, some (.arr 5 (codI .u8).sz (0 + 1) (([] : List Int)).length (getOf (codI .u8) ([] : List Int))))]) (fun s15 hr => pe (gq (ks := [4, 400032]) (ARGS := [qp 4 0]) (D_str (a := .ptr 1000000 0) (by kernel_rfl) (l := l8) s15 hr))) (fun s15 => ?_))))))))
   exact SimI.ru 2 [] (.thenN (.ret .fn))
def F16 (n : Nat) (a0 : (List Thing)) : Option (ByteArray × Int) :=
 if decide ((200 : Int) < ((a0).length : Int)) then
  some (ByteArray.empty, 13)
 else
  (F18 n (IntKind.wrap .u64 ((a0).length : Int))).bind fun (r1 : ByteArray) =>
  (bldAdd ([] : List Int) r1).bind fun (l2 : (List Int)) =>
  F16_l9 n a0 (n + 8) 0 l2
theorem F16_ok (n : Nat) (a0 : (List Thing)) : ∀ r, F16 n a0 = some r → D 16 [.one (vw Thing.cod a0)] [] = some (F16_e r) := by
 refine fn_to (D := D) (n := n + 8) (nt := 50) (rs := pc16_r) (c := p16c44) (L := [(0, .one (vw Thing.cod a0))]) (M := []) (k := 0) rfl rfl rfl rfl rfl rfl rfl ?_
 unfold F16
 refine Sim.su 2 [] (.seq (.su 3 [] (.cd _ ?_ ?_)))
 ·exact Sim.su 2 [] (.ret (.thenR .fn))
 ·refine Sim.skip (.thenN (.su 1 [(4, some (.tcells 61 [.val (.pointer none), .osl 400032 0 0 (([] : List Int)).length])), (400032, some (.arr 5 (codI .u8).sz 0 (([] : List Int)).length (getOf (codI .u8) ([] : List Int))))] (.sv 3 [] (.cl 15 true [[]] 18 [14] none (fun r1 => qs r1) [.one (li .u64 (iw .u64 ((a0).length : Int)))] (F18_ok _ _) (fun r1 => ?_)))))
  refine SimI.bn ⟨some 16, .gcall false false W56 [[(1, 1)], []] 17 [4, 15], none, []⟩ (fun l2 => [(16, .tup [qj (r1.size : Int), .one (.val (.nilIface))])]) (fun l2 => (W49 l2)) (fun l2 hr => pe (gq (ks := [4, 400032]) (ARGS := [qp 4 0, qs r1]) (D_add (a := .val (.pointer none)) (by kernel_rfl) (l := ([] : List Int)) (s := r1) l2 hr))) (fun l2 => ?_)
  refine SimI.dn (.thenN (.seq (.su 3 [] (.block (.loop (.pr [0, 4, 17, 18, 19] [4, 6, 400032] [] [(0, .one (vw Thing.cod a0)), (4, qp 4 0), (17, .one (vw Thing.cod a0)), (18, qj ((a0).length : Int)), (19, qj 0)] (W19 l2) ?_))))))
  exact F16_l9_ok n a0 (n + 8) 0 l2
def F43s0_e (a0 : Command) : Nat → PV × List Ob := fun r =>
  if r = 0 then (.one (.view 1 0 fun _ => []), [.cells (Command.cells a0)]) else
  if r = 1 then (.one (.csl 1000001 1 0 2), [.cells (Command.cells a0), .cells [.ptr 1000000 4, .ptr 1000000 5]]) else
  if r = 2 then (.one (.csl 1000001 1 0 3), [.cells (Command.cells a0), .cells [.ptr 1000000 1, .ptr 1000000 4, .ptr 1000000 5]]) else
  if r = 3 then (.one (.csl 1000001 1 0 2), [.cells (Command.cells a0), .cells [.ptr 1000000 1, .ptr 1000000 2]]) else
  if r = 4 then (.one (.csl 1000001 1 0 1), [.cells (Command.cells a0), .cells [.ptr 1000000 1]]) else
  if r = 5 then (.one (.csl 1000001 1 0 2), [.cells (Command.cells a0), .cells [.ptr 1000000 2, .ptr 1000000 3]]) else
  (.one (.csl 1000001 1 0 4), [.cells (Command.cells a0), .cells [.ptr 1000000 18, .ptr 1000000 19, .ptr 1000000 20, .ptr 1000000 21]])
theorem F43s0_e_0 (a0 : Command) (r : Nat) (h : r = 0) : F43s0_e a0 r = (.one (.view 1 0 fun _ => []), [.cells (Command.cells a0)]) := by
 unfold F43s0_e; simp only [h]; rfl
theorem F43s0_e_1 (a0 : Command) (r : Nat) (h : r = 1) : F43s0_e a0 r = (.one (.csl 1000001 1 0 2), [.cells (Command.cells a0), .cells [.ptr 1000000 4, .ptr 1000000 5]]) := by
 unfold F43s0_e; simp only [h]; rfl
theorem F43s0_e_2 (a0 : Command) (r : Nat) (h : r = 2) : F43s0_e a0 r = (.one (.csl 1000001 1 0 3), [.cells (Command.cells a0), .cells [.ptr 1000000 1, .ptr 1000000 4, .ptr 1000000 5]]) := by
 unfold F43s0_e; simp only [h]; rfl
theorem F43s0_e_3 (a0 : Command) (r : Nat) (h : r = 3) : F43s0_e a0 r = (.one (.csl 1000001 1 0 2), [.cells (Command.cells a0), .cells [.ptr 1000000 1, .ptr 1000000 2]]) := by
 unfold F43s0_e; simp only [h]; rfl
theorem F43s0_e_4 (a0 : Command) (r : Nat) (h : r = 4) : F43s0_e a0 r = (.one (.csl 1000001 1 0 1), [.cells (Command.cells a0), .cells [.ptr 1000000 1]]) := by
 unfold F43s0_e; simp only [h]; rfl
theorem F43s0_e_5 (a0 : Command) (r : Nat) (h : r = 5) : F43s0_e a0 r = (.one (.csl 1000001 1 0 2), [.cells (Command.cells a0), .cells [.ptr 1000000 2, .ptr 1000000 3]]) := by
 unfold F43s0_e; simp only [h]; rfl
theorem F43s0_e_6 (a0 : Command) (r : Nat) (h : r = 6) : F43s0_e a0 r = (.one (.csl 1000001 1 0 4), [.cells (Command.cells a0), .cells [.ptr 1000000 18, .ptr 1000000 19, .ptr 1000000 20, .ptr 1000000 21]]) := by
 unfold F43s0_e; simp only [h]; rfl
def F43s0_j1 (n : Nat) : Option Nat :=
  some 6
theorem F43s0_j1_ok (n : Nat) (a0 : Command) : Sim Tryz.prog D (n + 8) p43c30 [(0, qp 1000000 0)] (W92 a0) (F43s0_j1 n) (QB 0 (QT Tryz.prog D (n + 8) p43c48 (QF false pc43_r 1 (F43s0_e a0)))) := by
  unfold F43s0_j1
  exact Sim.seq (.rs (.ru 18 [(75, some (.cells W48))] (.thenN (.ret (.blockR (.thenR .fn))))))
def F43s0 (n : Nat) (a0 : Command) : Option Nat :=
 if a0.Kind == 1 then
  some 1
 else
  if a0.Kind == 2 then
   some 2
  else
   if a0.Kind == 3 then
    some 3
   else
    if a0.Kind == 4 then
     some 4
    else
     if a0.Kind == 5 then
      some 5
     else
      if a0.Kind == 6 then
       if a0.Kind == 6 then
        F43s0_j1 n
       else
        some 0
      else
       if a0.Kind == 7 then
        F43s0_j1 n
       else
        some 0
theorem F43s0_ok (n : Nat) (a0 : Command) : ∀ r, F43s0 n a0 = some r → D 43 [.one (.ptr 1000000 0)] [.cells (Command.cells a0)] = some ((F43s0_e a0) r) := by
 refine fn_to (D := D) (n := n + 8) (nt := 76) (rs := pc43_r) (c := p43c50) (L := [(0, qp 1000000 0)]) (M := (W92 a0)) (k := 1) rfl rfl rfl rfl rfl rfl rfl ?_
 unfold F43s0
 refine Sim.su 1 [] (.seq (.su 4 [] (.block (.su 2 [] (.cd _ ?_ ?_)))))
 ·exact Sim.su 10 [(17, some (.cells W98))] (.ret (.blockR (.thenR .fn)))
 ·refine Sim.su 2 [] (.cd _ ?_ ?_)
  ·exact Sim.su 13 [(31, some (.cells W68))] (.ret (.blockR (.thenR .fn)))
  ·refine Sim.su 2 [] (.cd _ ?_ ?_)
   ·exact Sim.su 8 [(40, some (.cells W99))] (.ret (.blockR (.thenR .fn)))
   ·refine Sim.su 2 [] (.cd _ ?_ ?_)
    ·exact Sim.su 5 [(46, some (.cells [.ptr 1000000 1]))] (.ret (.blockR (.thenR .fn)))
    ·refine Sim.su 2 [] (.cd _ ?_ ?_)
     ·exact Sim.su 8 [(55, some (.cells W100))] (.ret (.blockR (.thenR .fn)))
     ·refine Sim.seq (.su 2 [] (.cd _ ?_ ?_))
      ·refine Sim.skip (.thenN (.cd _ ?_ ?_))
       ·refine Sim.pr [0] [1000000] [] [(0, qp 1000000 0)] (W92 a0) ?_
        exact F43s0_j1_ok n a0
       ·exact Sim.skip (.blockN (.thenN (.su 1 [] (.ret .fn))))
      ·refine Sim.region0 (.ru 2 [] (.thenN (.cd _ ?_ ?_)))
       ·refine Sim.pr [0] [1000000] [] [(0, qp 1000000 0)] (W92 a0) ?_
        exact F43s0_j1_ok n a0
       ·exact Sim.skip (.blockN (.thenN (.su 1 [] (.ret .fn))))
def F44s0_e (a0 : Command) : Nat → PV × List Ob := fun r =>
  if r = 0 then (.one (.view 1 0 fun _ => []), [.cells (Command.cells a0)]) else
  if r = 1 then (.one (.csl 1000001 1 0 4), [.cells (Command.cells a0), .cells [.ptr 1000000 6, .ptr 1000000 8, .ptr 1000000 10, .ptr 1000000 12]]) else
  (.one (.csl 1000001 1 0 1), [.cells (Command.cells a0), .cells [.ptr 1000000 14]])
theorem F44s0_e_0 (a0 : Command) (r : Nat) (h : r = 0) : F44s0_e a0 r = (.one (.view 1 0 fun _ => []), [.cells (Command.cells a0)]) := by
 unfold F44s0_e; simp only [h]; rfl
theorem F44s0_e_1 (a0 : Command) (r : Nat) (h : r = 1) : F44s0_e a0 r = (.one (.csl 1000001 1 0 4), [.cells (Command.cells a0), .cells [.ptr 1000000 6, .ptr 1000000 8, .ptr 1000000 10, .ptr 1000000 12]]) := by
 unfold F44s0_e; simp only [h]; rfl
theorem F44s0_e_2 (a0 : Command) (r : Nat) (h : r = 2) : F44s0_e a0 r = (.one (.csl 1000001 1 0 1), [.cells (Command.cells a0), .cells [.ptr 1000000 14]]) := by
 unfold F44s0_e; simp only [h]; rfl
def F44s0 (n : Nat) (a0 : Command) : Option Nat :=
 if a0.Kind == 1 then
  some 1
 else
  if a0.Kind == 3 then
   some 2
  else
   some 0
theorem F44s0_ok (n : Nat) (a0 : Command) : ∀ r, F44s0 n a0 = some r → D 44 [.one (.ptr 1000000 0)] [.cells (Command.cells a0)] = some ((F44s0_e a0) r) := by
 refine fn_to (D := D) (n := n + 8) (nt := 32) (rs := pc44_r) (c := p44c22) (L := [(0, qp 1000000 0)]) (M := (W92 a0)) (k := 1) rfl rfl rfl rfl rfl rfl rfl ?_
 unfold F44s0
 refine Sim.su 1 [] (.seq (.su 4 [] (.block (.su 2 [] (.cd _ ?_ ?_)))))
 ·exact Sim.su 18 [(25, some (.cells W50))] (.ret (.blockR (.thenR .fn)))
 ·refine Sim.su 2 [] (.cd _ ?_ ?_)
  ·exact Sim.su 5 [(31, some (.cells [.ptr 1000000 14]))] (.ret (.blockR (.thenR .fn)))
  ·exact Sim.skip (.blockN (.thenN (.su 1 [] (.ret .fn))))
def F19_e : (ByteArray × Int) → PV × List Ob := fun r => (.tup [.one (ls r.1), .one (li .i64 r.2)], [])
def F19_j21 (n : Nat) (a0 : Command) (s20 : ByteArray) : Option (ByteArray × Int) :=
  (F44s0 n a0).bind fun (r22 : Nat) =>
  if r22 = 0 then
   some (s20, 0)
  else
   if r22 = 1 then
    (F45 n a0.F.a0.Text).bind fun (r25 : ByteArray) =>
    (F42 n a0.F.a0.N).bind fun (r26 : ByteArray) =>
    if r25.size + r26.size ≤ 9223372036854775807 then
     if s20.size + (r25 ++ r26).size ≤ 9223372036854775807 then
      (F45 n a0.F.a1.Text).bind fun (r27 : ByteArray) =>
      (F42 n a0.F.a1.N).bind fun (r28 : ByteArray) =>
      if r27.size + r28.size ≤ 9223372036854775807 then
       if (s20 ++ (r25 ++ r26)).size + (r27 ++ r28).size ≤ 9223372036854775807 then
        (F45 n a0.F.a2.Text).bind fun (r29 : ByteArray) =>
        (F42 n a0.F.a2.N).bind fun (r30 : ByteArray) =>
        if r29.size + r30.size ≤ 9223372036854775807 then
         if ((s20 ++ (r25 ++ r26)) ++ (r27 ++ r28)).size + (r29 ++ r30).size ≤ 9223372036854775807 then
          (F45 n a0.F.a3.Text).bind fun (r31 : ByteArray) =>
          (F42 n a0.F.a3.N).bind fun (r32 : ByteArray) =>
          if r31.size + r32.size ≤ 9223372036854775807 then
           if (((s20 ++ (r25 ++ r26)) ++ (r27 ++ r28)) ++ (r29 ++ r30)).size + (r31 ++ r32).size ≤ 9223372036854775807 then
            some ((((s20 ++ (r25 ++ r26)) ++ (r27 ++ r28)) ++ (r29 ++ r30)) ++ (r31 ++ r32), 0)
           else none
          else none
         else none
        else none
       else none
      else none
     else none
    else none
   else
    if r22 = 2 then
     (F45 n a0.Value.Text).bind fun (r23 : ByteArray) =>
     (F42 n a0.Value.N).bind fun (r24 : ByteArray) =>
     if r23.size + r24.size ≤ 9223372036854775807 then
      if s20.size + (r23 ++ r24).size ≤ 9223372036854775807 then
       some (s20 ++ (r23 ++ r24), 0)
      else none
     else none
    else
     none
theorem F19_j21_ok (n : Nat) (a0 : Command) (s20 : ByteArray) : Sim Tryz.prog D (n + 8) p19c45 [(1, qp 1 0), (4, qs s20)] (W2 a0) (F19_j21 n a0 s20) (QF false pc19_r 0 F19_e) := by
  unfold F19_j21
  refine Sim.seq (.seq (.rs (.open (og := F44s0 n a0) (fun r22 hr22 => ?_))))
  refine SimI.ite (c := r22 = 0) (fun cr22 => ?_) (fun _ => ?_)
  ·exact SimI.se ⟨some 36, .gcall false false W14 [[]] 44 [1], none, []⟩ [(36, .one (.view 1 0 fun _ => []))] (W2 a0) (pe (gq (ks := [1]) (ARGS := [qp 1 0]) ((F44s0_ok _ _ _ hr22).trans (congrArg some (F44s0_e_0 a0 r22 cr22))))) (.ru 2 [] (.thenN (.block (.loop (.succ (.seq (.rg [(4, qs s20), (36, .one (.view 1 0 fun _ => [])), (37, qj 0), (38, qj 0)] [] (.ru 1 [] (.thenN (.seq (.cf (.exit (.thenX (.loopX (.blockX (.thenN (.su 3 [] (.ret .fn))))))))))))))))))
  ·refine SimI.ite (c := r22 = 1) (fun cr22 => ?_) (fun _ => ?_)
   ·refine SimI.se ⟨some 36, .gcall false false W14 [[]] 44 [1], none, []⟩ [(36, .one (.csl 300000 1 0 4))] (W18 a0) (pe (eff_gcall (ks := [1]) (rks := []) (new := [300000]) (ARGS := [qp 1 0]) (args1 := [qp 1 0]) (args2 := [qp 1000000 0]) (os := [.cells (Command.cells a0)]) (os' := [.cells (Command.cells a0), .cells W50]) (os1 := [.cells (Command.cells a0), .cells W50]) (res := .one (.csl 1000001 1 0 4)) (res1 := .one (.csl 1000001 1 0 4)) (r := .one (.csl 300000 1 0 4)) (N := (W18 a0)) (by kernel_rfl) (readA_ow (readA_keep (by kernel_rfl) (readA_nil))) (by kernel_rfl) (by kernel_rfl) (by kernel_rfl) (by kernel_rfl) ((F44s0_ok _ _ _ hr22).trans (congrArg some (F44s0_e_1 a0 r22 cr22))) (by kernel_rfl) (by kernel_rfl) (by kernel_rfl) rfl (by kernel_rfl) (by kernel_rfl) (by kernel_rfl))) (.ru 2 [] (.thenN (.block (.loop (.succ (.seq (.rg [(4, qs s20), (36, .one (.csl 300000 1 0 4)), (37, qj 4), (38, qj 0)] (W18 a0) (.ru 1 [] (.thenN (.seq (.ct (.skip (.thenN (.seq (.block (.su 3 [] (.region0 (.rv 5 [] (.cm 47 false [[]] 45 [46] none [(46, .imm)] (F45_ok _ _) (fun r25 => ?_))))))))))))))))))))
    refine SimI.rv 4 [] (.cm 52 false [[]] 42 [51] none [(51, .imm)] (F42_ok _ _) (fun r26 => ?_))
    refine SimI.gp 53 (.bin .add 9 false false) [47, 52] none [(47, .imm), (52, .imm)] (fun hc => pr_addS _ _ _ r25 r26 hc) (.gp 54 (.bin .add 9 false false) [42, 53] none [(42, .imm), (53, .imm)] (fun hc => pr_addS _ _ _ s20 (r25 ++ r26) hc) (.ru 1 [] (.blockN (.thenN (.region0 (.ru 2 [] (.loopN (.succ (.seq (.rg [(4, qs (s20 ++ (r25 ++ r26))), (36, .one (.csl 300000 1 0 4)), (37, qj 4), (38, qj 1)] (W18 a0) (.ru 1 [] (.thenN (.seq (.ct (.skip (.thenN (.seq (.block (.su 3 [] (.region0 (.rv 5 [] (.cm 47 false [[]] 45 [46] none [(46, .imm)] (F45_ok _ _) (fun r27 => ?_)))))))))))))))))))))))
    refine SimI.rv 4 [] (.cm 52 false [[]] 42 [51] none [(51, .imm)] (F42_ok _ _) (fun r28 => ?_))
    refine SimI.gp 53 (.bin .add 9 false false) [47, 52] none [(47, .imm), (52, .imm)] (fun hc => pr_addS _ _ _ r27 r28 hc) (.gp 54 (.bin .add 9 false false) [42, 53] none [(42, .imm), (53, .imm)] (fun hc => pr_addS _ _ _ (s20 ++ (r25 ++ r26)) (r27 ++ r28) hc) (.ru 1 [] (.blockN (.thenN (.region0 (.ru 2 [] (.loopN (.succ (.seq (.rg [(4, qs ((s20 ++ (r25 ++ r26)) ++ (r27 ++ r28))), (36, .one (.csl 300000 1 0 4)), (37, qj 4), (38, qj 2)] (W18 a0) (.ru 1 [] (.thenN (.seq (.ct (.skip (.thenN (.seq (.block (.su 3 [] (.region0 (.rv 5 [] (.cm 47 false [[]] 45 [46] none [(46, .imm)] (F45_ok _ _) (fun r29 => ?_)))))))))))))))))))))))
    refine SimI.rv 4 [] (.cm 52 false [[]] 42 [51] none [(51, .imm)] (F42_ok _ _) (fun r30 => ?_))
    refine SimI.gp 53 (.bin .add 9 false false) [47, 52] none [(47, .imm), (52, .imm)] (fun hc => pr_addS _ _ _ r29 r30 hc) (.gp 54 (.bin .add 9 false false) [42, 53] none [(42, .imm), (53, .imm)] (fun hc => pr_addS _ _ _ ((s20 ++ (r25 ++ r26)) ++ (r27 ++ r28)) (r29 ++ r30) hc) (.ru 1 [] (.blockN (.thenN (.region0 (.ru 2 [] (.loopN (.succ (.seq (.rg [(4, qs (((s20 ++ (r25 ++ r26)) ++ (r27 ++ r28)) ++ (r29 ++ r30))), (36, .one (.csl 300000 1 0 4)), (37, qj 4), (38, qj 3)] (W18 a0) (.ru 1 [] (.thenN (.seq (.ct (.skip (.thenN (.seq (.block (.su 3 [] (.region0 (.rv 5 [] (.cm 47 false [[]] 45 [46] none [(46, .imm)] (F45_ok _ _) (fun r31 => ?_)))))))))))))))))))))))
    refine SimI.rv 4 [] (.cm 52 false [[]] 42 [51] none [(51, .imm)] (F42_ok _ _) (fun r32 => ?_))
    exact SimI.gp 53 (.bin .add 9 false false) [47, 52] none [(47, .imm), (52, .imm)] (fun hc => pr_addS _ _ _ r31 r32 hc) (.gp 54 (.bin .add 9 false false) [42, 53] none [(42, .imm), (53, .imm)] (fun hc => pr_addS _ _ _ (((s20 ++ (r25 ++ r26)) ++ (r27 ++ r28)) ++ (r29 ++ r30)) (r31 ++ r32) hc) (.ru 1 [] (.blockN (.thenN (.region0 (.ru 2 [] (.loopN (.succ (.seq (.rg [(4, qs ((((s20 ++ (r25 ++ r26)) ++ (r27 ++ r28)) ++ (r29 ++ r30)) ++ (r31 ++ r32))), (36, .one (.csl 300000 1 0 4)), (37, qj 4), (38, qj 4)] (W18 a0) (.ru 1 [] (.thenN (.seq (.cf (.exit (.thenX (.loopX (.blockX (.thenN (.su 3 [] (.ret .fn)))))))))))))))))))))
   ·refine SimI.ite (c := r22 = 2) (fun cr22 => ?_) (fun _ => ?_)
    ·refine SimI.se ⟨some 36, .gcall false false W14 [[]] 44 [1], none, []⟩ [(36, .one (.csl 300000 1 0 1))] (W72 a0) (pe (eff_gcall (ks := [1]) (rks := []) (new := [300000]) (ARGS := [qp 1 0]) (args1 := [qp 1 0]) (args2 := [qp 1000000 0]) (os := [.cells (Command.cells a0)]) (os' := [.cells (Command.cells a0), .cells [.ptr 1000000 14]]) (os1 := [.cells (Command.cells a0), .cells [.ptr 1000000 14]]) (res := .one (.csl 1000001 1 0 1)) (res1 := .one (.csl 1000001 1 0 1)) (r := .one (.csl 300000 1 0 1)) (N := (W72 a0)) (by kernel_rfl) (readA_ow (readA_keep (by kernel_rfl) (readA_nil))) (by kernel_rfl) (by kernel_rfl) (by kernel_rfl) (by kernel_rfl) ((F44s0_ok _ _ _ hr22).trans (congrArg some (F44s0_e_2 a0 r22 cr22))) (by kernel_rfl) (by kernel_rfl) (by kernel_rfl) rfl (by kernel_rfl) (by kernel_rfl) (by kernel_rfl))) (.ru 2 [] (.thenN (.block (.loop (.succ (.seq (.rg [(4, qs s20), (36, .one (.csl 300000 1 0 1)), (37, qj 1), (38, qj 0)] (W72 a0) (.ru 1 [] (.thenN (.seq (.ct (.skip (.thenN (.seq (.block (.su 3 [] (.region0 (.rv 5 [] (.cm 47 false [[]] 45 [46] none [(46, .imm)] (F45_ok _ _) (fun r23 => ?_))))))))))))))))))))
     refine SimI.rv 4 [] (.cm 52 false [[]] 42 [51] none [(51, .imm)] (F42_ok _ _) (fun r24 => ?_))
     exact SimI.gp 53 (.bin .add 9 false false) [47, 52] none [(47, .imm), (52, .imm)] (fun hc => pr_addS _ _ _ r23 r24 hc) (.gp 54 (.bin .add 9 false false) [42, 53] none [(42, .imm), (53, .imm)] (fun hc => pr_addS _ _ _ s20 (r23 ++ r24) hc) (.ru 1 [] (.blockN (.thenN (.region0 (.ru 2 [] (.loopN (.succ (.seq (.rg [(4, qs (s20 ++ (r23 ++ r24))), (36, .one (.csl 300000 1 0 1)), (37, qj 1), (38, qj 1)] (W72 a0) (.ru 1 [] (.thenN (.seq (.cf (.exit (.thenX (.loopX (.blockX (.thenN (.su 3 [] (.ret .fn)))))))))))))))))))))
    ·exact SimI.vac rfl
def F19 (n : Nat) (a0 : Command) : Option (ByteArray × Int) :=
 (F31 n a0).bind fun (r1 : Bool) =>
 if !(r1) then
  some (ByteArray.empty, 11)
 else
  (F42 n a0.Kind).bind fun (r2 : ByteArray) =>
  (F42 n a0.Client).bind fun (r3 : ByteArray) =>
  if r2.size + r3.size ≤ 9223372036854775807 then
   (F42 n a0.Session).bind fun (r4 : ByteArray) =>
   if (r2 ++ r3).size + r4.size ≤ 9223372036854775807 then
    (F43s0 n a0).bind fun (r5 : Nat) =>
    if r5 = 0 then
     F19_j21 n a0 ((r2 ++ r3) ++ r4)
    else
     if r5 = 1 then
      (F42 n a0.At.X).bind fun (r18 : ByteArray) =>
      if ((r2 ++ r3) ++ r4).size + r18.size ≤ 9223372036854775807 then
       (F42 n a0.At.Y).bind fun (r19 : ByteArray) =>
       if (((r2 ++ r3) ++ r4) ++ r18).size + r19.size ≤ 9223372036854775807 then
        F19_j21 n a0 ((((r2 ++ r3) ++ r4) ++ r18) ++ r19)
       else none
      else none
     else
      if r5 = 2 then
       (F42 n a0.ID).bind fun (r15 : ByteArray) =>
       if ((r2 ++ r3) ++ r4).size + r15.size ≤ 9223372036854775807 then
        (F42 n a0.At.X).bind fun (r16 : ByteArray) =>
        if (((r2 ++ r3) ++ r4) ++ r15).size + r16.size ≤ 9223372036854775807 then
         (F42 n a0.At.Y).bind fun (r17 : ByteArray) =>
         if ((((r2 ++ r3) ++ r4) ++ r15) ++ r16).size + r17.size ≤ 9223372036854775807 then
          F19_j21 n a0 (((((r2 ++ r3) ++ r4) ++ r15) ++ r16) ++ r17)
         else none
        else none
       else none
      else
       if r5 = 3 then
        (F42 n a0.ID).bind fun (r13 : ByteArray) =>
        if ((r2 ++ r3) ++ r4).size + r13.size ≤ 9223372036854775807 then
         (F42 n a0.Which).bind fun (r14 : ByteArray) =>
         if (((r2 ++ r3) ++ r4) ++ r13).size + r14.size ≤ 9223372036854775807 then
          F19_j21 n a0 ((((r2 ++ r3) ++ r4) ++ r13) ++ r14)
         else none
        else none
       else
        if r5 = 4 then
         (F42 n a0.ID).bind fun (r12 : ByteArray) =>
         if ((r2 ++ r3) ++ r4).size + r12.size ≤ 9223372036854775807 then
          F19_j21 n a0 (((r2 ++ r3) ++ r4) ++ r12)
         else none
        else
         if r5 = 5 then
          (F42 n a0.Which).bind fun (r10 : ByteArray) =>
          if ((r2 ++ r3) ++ r4).size + r10.size ≤ 9223372036854775807 then
           (F42 n a0.To).bind fun (r11 : ByteArray) =>
           if (((r2 ++ r3) ++ r4) ++ r10).size + r11.size ≤ 9223372036854775807 then
            F19_j21 n a0 ((((r2 ++ r3) ++ r4) ++ r10) ++ r11)
           else none
          else none
         else
          if r5 = 6 then
           (F42 n a0.Rect.X0).bind fun (r6 : ByteArray) =>
           if ((r2 ++ r3) ++ r4).size + r6.size ≤ 9223372036854775807 then
            (F42 n a0.Rect.Y0).bind fun (r7 : ByteArray) =>
            if (((r2 ++ r3) ++ r4) ++ r6).size + r7.size ≤ 9223372036854775807 then
             (F42 n a0.Rect.X1).bind fun (r8 : ByteArray) =>
             if ((((r2 ++ r3) ++ r4) ++ r6) ++ r7).size + r8.size ≤ 9223372036854775807 then
              (F42 n a0.Rect.Y1).bind fun (r9 : ByteArray) =>
              if (((((r2 ++ r3) ++ r4) ++ r6) ++ r7) ++ r8).size + r9.size ≤ 9223372036854775807 then
               F19_j21 n a0 ((((((r2 ++ r3) ++ r4) ++ r6) ++ r7) ++ r8) ++ r9)
              else none
             else none
            else none
           else none
          else
           none
   else none
  else none
theorem F19_ok (n : Nat) (a0 : Command) : ∀ r, F19 n a0 = some r → D 19 [.agg (Command.cells a0)] [] = some (F19_e r) := by
 refine fn_to (D := D) (n := n + 8) (nt := 57) (rs := pc19_r) (c := p19c49) (L := (W79 a0)) (M := []) (k := 0) rfl rfl rfl rfl rfl rfl rfl ?_
 unfold F19
 refine Sim.su 3 (W2 a0) (.seq (.sv 1 [] (.cl 10 true [[]] 31 [9] none (fun r1 => qb r1) [.agg (Command.cells a0)] (F31_ok _ _) (fun r1 => ?_))))
 refine SimI.ru 1 [] (.thenN (.cd _ ?_ ?_))
 ·exact Sim.su 2 [] (.ret (.thenR .fn))
 ·refine Sim.skip (.thenN (.sv 2 [] (.cm 14 false [[]] 42 [13] none [(13, .imm)] (F42_ok _ _) (fun r2 => ?_))))
  refine SimI.rv 2 [] (.cm 17 false [[]] 42 [16] none [(16, .imm)] (F42_ok _ _) (fun r3 => ?_))
  refine SimI.gp 18 (.bin .add 9 false false) [14, 17] none [(14, .imm), (17, .imm)] (fun hc => pr_addS _ _ _ r2 r3 hc) (.rv 2 [] (.cm 21 false [[]] 42 [20] none [(20, .imm)] (F42_ok _ _) (fun r4 => ?_)))
  refine SimI.gp 22 (.bin .add 9 false false) [18, 21] none [(18, .imm), (21, .imm)] (fun hc => pr_addS _ _ _ (r2 ++ r3) r4 hc) (.ru 1 [] (.thenN (.seq (.seq (.region0 (.open (og := F43s0 n a0) (fun r5 hr5 => ?_)))))))
  refine SimI.ite (c := r5 = 0) (fun cr5 => ?_) (fun _ => ?_)
  ·refine SimI.se ⟨some 23, .gcall false false W14 [[]] 43 [1], none, []⟩ [(23, .one (.view 1 0 fun _ => []))] (W2 a0) (pe (gq (ks := [1]) (ARGS := [qp 1 0]) ((F43s0_ok _ _ _ hr5).trans (congrArg some (F43s0_e_0 a0 r5 cr5))))) (.ru 2 [] (.thenN (.block (.loop (.succ (.seq (.rg [(1, qp 1 0), (4, qs ((r2 ++ r3) ++ r4)), (23, .one (.view 1 0 fun _ => [])), (24, qj 0), (25, qj 0)] (W2 a0) (.ru 1 [] (.thenN (.seq (.cf (.exit (.thenX (.loopX (.blockX (.thenN (.pr [1, 4] [1, 300000] [] [(1, qp 1 0), (4, qs ((r2 ++ r3) ++ r4))] (W2 a0) ?_)))))))))))))))))
   exact F19_j21_ok n a0 ((r2 ++ r3) ++ r4)
  ·refine SimI.ite (c := r5 = 1) (fun cr5 => ?_) (fun _ => ?_)
   ·refine SimI.se ⟨some 23, .gcall false false W14 [[]] 43 [1], none, []⟩ [(23, .one (.csl 300000 1 0 2))] (W41 a0) (pe (eff_gcall (ks := [1]) (rks := []) (new := [300000]) (ARGS := [qp 1 0]) (args1 := [qp 1 0]) (args2 := [qp 1000000 0]) (os := [.cells (Command.cells a0)]) (os' := [.cells (Command.cells a0), .cells W98]) (os1 := [.cells (Command.cells a0), .cells W98]) (res := .one (.csl 1000001 1 0 2)) (res1 := .one (.csl 1000001 1 0 2)) (r := .one (.csl 300000 1 0 2)) (N := (W41 a0)) (by kernel_rfl) (readA_ow (readA_keep (by kernel_rfl) (readA_nil))) (by kernel_rfl) (by kernel_rfl) (by kernel_rfl) (by kernel_rfl) ((F43s0_ok _ _ _ hr5).trans (congrArg some (F43s0_e_1 a0 r5 cr5))) (by kernel_rfl) (by kernel_rfl) (by kernel_rfl) rfl (by kernel_rfl) (by kernel_rfl) (by kernel_rfl))) (.ru 2 [] (.thenN (.block (.loop (.succ (.seq (.rg (W103 r2 r3 r4) (W41 a0) (.ru 1 [] (.thenN (.seq (.ct (.skip (.thenN (.seq (.block (.su 3 [] (.region0 (.rv 4 [] (.cl 33 true [[]] 42 [32] none (fun r18 => qs r18) [qj a0.At.X] (F42_ok _ _) (fun r18 => ?_))))))))))))))))))))
    refine SimI.gp 34 (.bin .add 9 false false) [29, 33] none [] (fun hc => pr_addS _ _ _ ((r2 ++ r3) ++ r4) r18 hc) (.ru 1 [] (.blockN (.thenN (.region0 (.ru 2 [] (.loopN (.succ (.seq (.rg (W113 r2 r3 r4 r18) (W41 a0) (.ru 1 [] (.thenN (.seq (.ct (.skip (.thenN (.seq (.block (.su 3 [] (.region0 (.rv 4 [] (.cl 33 true [[]] 42 [32] none (fun r19 => qs r19) [qj a0.At.Y] (F42_ok _ _) (fun r19 => ?_))))))))))))))))))))))
    refine SimI.gp 34 (.bin .add 9 false false) [29, 33] none [] (fun hc => pr_addS _ _ _ (((r2 ++ r3) ++ r4) ++ r18) r19 hc) (.ru 1 [] (.blockN (.thenN (.region0 (.ru 2 [] (.loopN (.succ (.seq (.rg (W129 r2 r3 r4 r18 r19) (W41 a0) (.ru 1 [] (.thenN (.seq (.cf (.exit (.thenX (.loopX (.blockX (.thenN (.pr [1, 4] [1, 300000] [] [(1, qp 1 0), (4, qs ((((r2 ++ r3) ++ r4) ++ r18) ++ r19))] (W2 a0) ?_)))))))))))))))))))
    exact F19_j21_ok n a0 ((((r2 ++ r3) ++ r4) ++ r18) ++ r19)
   ·refine SimI.ite (c := r5 = 2) (fun cr5 => ?_) (fun _ => ?_)
    ·refine SimI.se ⟨some 23, .gcall false false W14 [[]] 43 [1], none, []⟩ [(23, .one (.csl 300000 1 0 3))] (W23 a0) (pe (eff_gcall (ks := [1]) (rks := []) (new := [300000]) (ARGS := [qp 1 0]) (args1 := [qp 1 0]) (args2 := [qp 1000000 0]) (os := [.cells (Command.cells a0)]) (os' := [.cells (Command.cells a0), .cells W68]) (os1 := [.cells (Command.cells a0), .cells W68]) (res := .one (.csl 1000001 1 0 3)) (res1 := .one (.csl 1000001 1 0 3)) (r := .one (.csl 300000 1 0 3)) (N := (W23 a0)) (by kernel_rfl) (readA_ow (readA_keep (by kernel_rfl) (readA_nil))) (by kernel_rfl) (by kernel_rfl) (by kernel_rfl) (by kernel_rfl) ((F43s0_ok _ _ _ hr5).trans (congrArg some (F43s0_e_2 a0 r5 cr5))) (by kernel_rfl) (by kernel_rfl) (by kernel_rfl) rfl (by kernel_rfl) (by kernel_rfl) (by kernel_rfl))) (.ru 2 [] (.thenN (.block (.loop (.succ (.seq (.rg [(1, qp 1 0), (4, qs ((r2 ++ r3) ++ r4)), (23, .one (.csl 300000 1 0 3)), (24, qj 3), (25, qj 0)] (W23 a0) (.ru 1 [] (.thenN (.seq (.ct (.skip (.thenN (.seq (.block (.su 3 [] (.region0 (.rv 4 [] (.cl 33 true [[]] 42 [32] none (fun r15 => qs r15) [qj a0.ID] (F42_ok _ _) (fun r15 => ?_))))))))))))))))))))
     refine SimI.gp 34 (.bin .add 9 false false) [29, 33] none [] (fun hc => pr_addS _ _ _ ((r2 ++ r3) ++ r4) r15 hc) (.ru 1 [] (.blockN (.thenN (.region0 (.ru 2 [] (.loopN (.succ (.seq (.rg [(1, qp 1 0), (4, qs (((r2 ++ r3) ++ r4) ++ r15)), (23, .one (.csl 300000 1 0 3)), (24, qj 3), (25, qj 1)] (W23 a0) (.ru 1 [] (.thenN (.seq (.ct (.skip (.thenN (.seq (.block (.su 3 [] (.region0 (.rv 4 [] (.cl 33 true [[]] 42 [32] none (fun r16 => qs r16) [qj a0.At.X] (F42_ok _ _) (fun r16 => ?_))))))))))))))))))))))
     refine SimI.gp 34 (.bin .add 9 false false) [29, 33] none [] (fun hc => pr_addS _ _ _ (((r2 ++ r3) ++ r4) ++ r15) r16 hc) (.ru 1 [] (.blockN (.thenN (.region0 (.ru 2 [] (.loopN (.succ (.seq (.rg [(1, qp 1 0), (4, qs ((((r2 ++ r3) ++ r4) ++ r15) ++ r16)), (23, .one (.csl 300000 1 0 3)), (24, qj 3), (25, qj 2)] (W23 a0) (.ru 1 [] (.thenN (.seq (.ct (.skip (.thenN (.seq (.block (.su 3 [] (.region0 (.rv 4 [] (.cl 33 true [[]] 42 [32] none (fun r17 => qs r17) [qj a0.At.Y] (F42_ok _ _) (fun r17 => ?_))))))))))))))))))))))
     refine SimI.gp 34 (.bin .add 9 false false) [29, 33] none [] (fun hc => pr_addS _ _ _ ((((r2 ++ r3) ++ r4) ++ r15) ++ r16) r17 hc) (.ru 1 [] (.blockN (.thenN (.region0 (.ru 2 [] (.loopN (.succ (.seq (.rg [(1, qp 1 0), (4, qs (((((r2 ++ r3) ++ r4) ++ r15) ++ r16) ++ r17)), (23, .one (.csl 300000 1 0 3)), (24, qj 3), (25, qj 3)] (W23 a0) (.ru 1 [] (.thenN (.seq (.cf (.exit (.thenX (.loopX (.blockX (.thenN (.pr [1, 4] [1, 300000] [] [(1, qp 1 0), (4, qs (((((r2 ++ r3) ++ r4) ++ r15) ++ r16) ++ r17))] (W2 a0) ?_)))))))))))))))))))
     exact F19_j21_ok n a0 (((((r2 ++ r3) ++ r4) ++ r15) ++ r16) ++ r17)
    ·refine SimI.ite (c := r5 = 3) (fun cr5 => ?_) (fun _ => ?_)
     ·refine SimI.se ⟨some 23, .gcall false false W14 [[]] 43 [1], none, []⟩ [(23, .one (.csl 300000 1 0 2))] (W42 a0) (pe (eff_gcall (ks := [1]) (rks := []) (new := [300000]) (ARGS := [qp 1 0]) (args1 := [qp 1 0]) (args2 := [qp 1000000 0]) (os := [.cells (Command.cells a0)]) (os' := [.cells (Command.cells a0), .cells W99]) (os1 := [.cells (Command.cells a0), .cells W99]) (res := .one (.csl 1000001 1 0 2)) (res1 := .one (.csl 1000001 1 0 2)) (r := .one (.csl 300000 1 0 2)) (N := (W42 a0)) (by kernel_rfl) (readA_ow (readA_keep (by kernel_rfl) (readA_nil))) (by kernel_rfl) (by kernel_rfl) (by kernel_rfl) (by kernel_rfl) ((F43s0_ok _ _ _ hr5).trans (congrArg some (F43s0_e_3 a0 r5 cr5))) (by kernel_rfl) (by kernel_rfl) (by kernel_rfl) rfl (by kernel_rfl) (by kernel_rfl) (by kernel_rfl))) (.ru 2 [] (.thenN (.block (.loop (.succ (.seq (.rg (W103 r2 r3 r4) (W42 a0) (.ru 1 [] (.thenN (.seq (.ct (.skip (.thenN (.seq (.block (.su 3 [] (.region0 (.rv 4 [] (.cl 33 true [[]] 42 [32] none (fun r13 => qs r13) [qj a0.ID] (F42_ok _ _) (fun r13 => ?_))))))))))))))))))))
      refine SimI.gp 34 (.bin .add 9 false false) [29, 33] none [] (fun hc => pr_addS _ _ _ ((r2 ++ r3) ++ r4) r13 hc) (.ru 1 [] (.blockN (.thenN (.region0 (.ru 2 [] (.loopN (.succ (.seq (.rg (W113 r2 r3 r4 r13) (W42 a0) (.ru 1 [] (.thenN (.seq (.ct (.skip (.thenN (.seq (.block (.su 3 [] (.region0 (.rv 4 [] (.cl 33 true [[]] 42 [32] none (fun r14 => qs r14) [qj a0.Which] (F42_ok _ _) (fun r14 => ?_))))))))))))))))))))))
      refine SimI.gp 34 (.bin .add 9 false false) [29, 33] none [] (fun hc => pr_addS _ _ _ (((r2 ++ r3) ++ r4) ++ r13) r14 hc) (.ru 1 [] (.blockN (.thenN (.region0 (.ru 2 [] (.loopN (.succ (.seq (.rg (W129 r2 r3 r4 r13 r14) (W42 a0) (.ru 1 [] (.thenN (.seq (.cf (.exit (.thenX (.loopX (.blockX (.thenN (.pr [1, 4] [1, 300000] [] [(1, qp 1 0), (4, qs ((((r2 ++ r3) ++ r4) ++ r13) ++ r14))] (W2 a0) ?_)))))))))))))))))))
      exact F19_j21_ok n a0 ((((r2 ++ r3) ++ r4) ++ r13) ++ r14)
     ·refine SimI.ite (c := r5 = 4) (fun cr5 => ?_) (fun _ => ?_)
      ·refine SimI.se ⟨some 23, .gcall false false W14 [[]] 43 [1], none, []⟩ [(23, .one (.csl 300000 1 0 1))] (W75 a0) (pe (eff_gcall (ks := [1]) (rks := []) (new := [300000]) (ARGS := [qp 1 0]) (args1 := [qp 1 0]) (args2 := [qp 1000000 0]) (os := [.cells (Command.cells a0)]) (os' := [.cells (Command.cells a0), .cells [.ptr 1000000 1]]) (os1 := [.cells (Command.cells a0), .cells [.ptr 1000000 1]]) (res := .one (.csl 1000001 1 0 1)) (res1 := .one (.csl 1000001 1 0 1)) (r := .one (.csl 300000 1 0 1)) (N := (W75 a0)) (by kernel_rfl) (readA_ow (readA_keep (by kernel_rfl) (readA_nil))) (by kernel_rfl) (by kernel_rfl) (by kernel_rfl) (by kernel_rfl) ((F43s0_ok _ _ _ hr5).trans (congrArg some (F43s0_e_4 a0 r5 cr5))) (by kernel_rfl) (by kernel_rfl) (by kernel_rfl) rfl (by kernel_rfl) (by kernel_rfl) (by kernel_rfl))) (.ru 2 [] (.thenN (.block (.loop (.succ (.seq (.rg [(1, qp 1 0), (4, qs ((r2 ++ r3) ++ r4)), (23, .one (.csl 300000 1 0 1)), (24, qj 1), (25, qj 0)] (W75 a0) (.ru 1 [] (.thenN (.seq (.ct (.skip (.thenN (.seq (.block (.su 3 [] (.region0 (.rv 4 [] (.cl 33 true [[]] 42 [32] none (fun r12 => qs r12) [qj a0.ID] (F42_ok _ _) (fun r12 => ?_))))))))))))))))))))
       refine SimI.gp 34 (.bin .add 9 false false) [29, 33] none [] (fun hc => pr_addS _ _ _ ((r2 ++ r3) ++ r4) r12 hc) (.ru 1 [] (.blockN (.thenN (.region0 (.ru 2 [] (.loopN (.succ (.seq (.rg [(1, qp 1 0), (4, qs (((r2 ++ r3) ++ r4) ++ r12)), (23, .one (.csl 300000 1 0 1)), (24, qj 1), (25, qj 1)] (W75 a0) (.ru 1 [] (.thenN (.seq (.cf (.exit (.thenX (.loopX (.blockX (.thenN (.pr [1, 4] [1, 300000] [] [(1, qp 1 0), (4, qs (((r2 ++ r3) ++ r4) ++ r12))] (W2 a0) ?_)))))))))))))))))))
       exact F19_j21_ok n a0 (((r2 ++ r3) ++ r4) ++ r12)
      ·refine SimI.ite (c := r5 = 5) (fun cr5 => ?_) (fun _ => ?_)
       ·refine SimI.se ⟨some 23, .gcall false false W14 [[]] 43 [1], none, []⟩ [(23, .one (.csl 300000 1 0 2))] (W43 a0) (pe (eff_gcall (ks := [1]) (rks := []) (new := [300000]) (ARGS := [qp 1 0]) (args1 := [qp 1 0]) (args2 := [qp 1000000 0]) (os := [.cells (Command.cells a0)]) (os' := [.cells (Command.cells a0), .cells W100]) (os1 := [.cells (Command.cells a0), .cells W100]) (res := .one (.csl 1000001 1 0 2)) (res1 := .one (.csl 1000001 1 0 2)) (r := .one (.csl 300000 1 0 2)) (N := (W43 a0)) (by kernel_rfl) (readA_ow (readA_keep (by kernel_rfl) (readA_nil))) (by kernel_rfl) (by kernel_rfl) (by kernel_rfl) (by kernel_rfl) ((F43s0_ok _ _ _ hr5).trans (congrArg some (F43s0_e_5 a0 r5 cr5))) (by kernel_rfl) (by kernel_rfl) (by kernel_rfl) rfl (by kernel_rfl) (by kernel_rfl) (by kernel_rfl))) (.ru 2 [] (.thenN (.block (.loop (.succ (.seq (.rg (W103 r2 r3 r4) (W43 a0) (.ru 1 [] (.thenN (.seq (.ct (.skip (.thenN (.seq (.block (.su 3 [] (.region0 (.rv 4 [] (.cl 33 true [[]] 42 [32] none (fun r10 => qs r10) [qj a0.Which] (F42_ok _ _) (fun r10 => ?_))))))))))))))))))))
        refine SimI.gp 34 (.bin .add 9 false false) [29, 33] none [] (fun hc => pr_addS _ _ _ ((r2 ++ r3) ++ r4) r10 hc) (.ru 1 [] (.blockN (.thenN (.region0 (.ru 2 [] (.loopN (.succ (.seq (.rg (W113 r2 r3 r4 r10) (W43 a0) (.ru 1 [] (.thenN (.seq (.ct (.skip (.thenN (.seq (.block (.su 3 [] (.region0 (.rv 4 [] (.cl 33 true [[]] 42 [32] none (fun r11 => qs r11) [qj a0.To] (F42_ok _ _) (fun r11 => ?_))))))))))))))))))))))
        refine SimI.gp 34 (.bin .add 9 false false) [29, 33] none [] (fun hc => pr_addS _ _ _ (((r2 ++ r3) ++ r4) ++ r10) r11 hc) (.ru 1 [] (.blockN (.thenN (.region0 (.ru 2 [] (.loopN (.succ (.seq (.rg (W129 r2 r3 r4 r10 r11) (W43 a0) (.ru 1 [] (.thenN (.seq (.cf (.exit (.thenX (.loopX (.blockX (.thenN (.pr [1, 4] [1, 300000] [] [(1, qp 1 0), (4, qs ((((r2 ++ r3) ++ r4) ++ r10) ++ r11))] (W2 a0) ?_)))))))))))))))))))
        exact F19_j21_ok n a0 ((((r2 ++ r3) ++ r4) ++ r10) ++ r11)
       ·refine SimI.ite (c := r5 = 6) (fun cr5 => ?_) (fun _ => ?_)
        ·refine SimI.se ⟨some 23, .gcall false false W14 [[]] 43 [1], none, []⟩ [(23, .one (.csl 300000 1 0 4))] (W16 a0) (pe (eff_gcall (ks := [1]) (rks := []) (new := [300000]) (ARGS := [qp 1 0]) (args1 := [qp 1 0]) (args2 := [qp 1000000 0]) (os := [.cells (Command.cells a0)]) (os' := [.cells (Command.cells a0), .cells W48]) (os1 := [.cells (Command.cells a0), .cells W48]) (res := .one (.csl 1000001 1 0 4)) (res1 := .one (.csl 1000001 1 0 4)) (r := .one (.csl 300000 1 0 4)) (N := (W16 a0)) (by kernel_rfl) (readA_ow (readA_keep (by kernel_rfl) (readA_nil))) (by kernel_rfl) (by kernel_rfl) (by kernel_rfl) (by kernel_rfl) ((F43s0_ok _ _ _ hr5).trans (congrArg some (F43s0_e_6 a0 r5 cr5))) (by kernel_rfl) (by kernel_rfl) (by kernel_rfl) rfl (by kernel_rfl) (by kernel_rfl) (by kernel_rfl))) (.ru 2 [] (.thenN (.block (.loop (.succ (.seq (.rg [(1, qp 1 0), (4, qs ((r2 ++ r3) ++ r4)), (23, .one (.csl 300000 1 0 4)), (24, qj 4), (25, qj 0)] (W16 a0) (.ru 1 [] (.thenN (.seq (.ct (.skip (.thenN (.seq (.block (.su 3 [] (.region0 (.rv 4 [] (.cl 33 true [[]] 42 [32] none (fun r6 => qs r6) [qj a0.Rect.X0] (F42_ok _ _) (fun r6 => ?_))))))))))))))))))))
         refine SimI.gp 34 (.bin .add 9 false false) [29, 33] none [] (fun hc => pr_addS _ _ _ ((r2 ++ r3) ++ r4) r6 hc) (.ru 1 [] (.blockN (.thenN (.region0 (.ru 2 [] (.loopN (.succ (.seq (.rg [(1, qp 1 0), (4, qs (((r2 ++ r3) ++ r4) ++ r6)), (23, .one (.csl 300000 1 0 4)), (24, qj 4), (25, qj 1)] (W16 a0) (.ru 1 [] (.thenN (.seq (.ct (.skip (.thenN (.seq (.block (.su 3 [] (.region0 (.rv 4 [] (.cl 33 true [[]] 42 [32] none (fun r7 => qs r7) [qj a0.Rect.Y0] (F42_ok _ _) (fun r7 => ?_))))))))))))))))))))))
         refine SimI.gp 34 (.bin .add 9 false false) [29, 33] none [] (fun hc => pr_addS _ _ _ (((r2 ++ r3) ++ r4) ++ r6) r7 hc) (.ru 1 [] (.blockN (.thenN (.region0 (.ru 2 [] (.loopN (.succ (.seq (.rg [(1, qp 1 0), (4, qs ((((r2 ++ r3) ++ r4) ++ r6) ++ r7)), (23, .one (.csl 300000 1 0 4)), (24, qj 4), (25, qj 2)] (W16 a0) (.ru 1 [] (.thenN (.seq (.ct (.skip (.thenN (.seq (.block (.su 3 [] (.region0 (.rv 4 [] (.cl 33 true [[]] 42 [32] none (fun r8 => qs r8) [qj a0.Rect.X1] (F42_ok _ _) (fun r8 => ?_))))))))))))))))))))))
         refine SimI.gp 34 (.bin .add 9 false false) [29, 33] none [] (fun hc => pr_addS _ _ _ ((((r2 ++ r3) ++ r4) ++ r6) ++ r7) r8 hc) (.ru 1 [] (.blockN (.thenN (.region0 (.ru 2 [] (.loopN (.succ (.seq (.rg [(1, qp 1 0), (4, qs (((((r2 ++ r3) ++ r4) ++ r6) ++ r7) ++ r8)), (23, .one (.csl 300000 1 0 4)), (24, qj 4), (25, qj 3)] (W16 a0) (.ru 1 [] (.thenN (.seq (.ct (.skip (.thenN (.seq (.block (.su 3 [] (.region0 (.rv 4 [] (.cl 33 true [[]] 42 [32] none (fun r9 => qs r9) [qj a0.Rect.Y1] (F42_ok _ _) (fun r9 => ?_))))))))))))))))))))))
         refine SimI.gp 34 (.bin .add 9 false false) [29, 33] none [] (fun hc => pr_addS _ _ _ (((((r2 ++ r3) ++ r4) ++ r6) ++ r7) ++ r8) r9 hc) (.ru 1 [] (.blockN (.thenN (.region0 (.ru 2 [] (.loopN (.succ (.seq (.rg [(1, qp 1 0), (4, qs ((((((r2 ++ r3) ++ r4) ++ r6) ++ r7) ++ r8) ++ r9)), (23, .one (.csl 300000 1 0 4)), (24, qj 4), (25, qj 4)] (W16 a0) (.ru 1 [] (.thenN (.seq (.cf (.exit (.thenX (.loopX (.blockX (.thenN (.pr [1, 4] [1, 300000] [] [(1, qp 1 0), (4, qs ((((((r2 ++ r3) ++ r4) ++ r6) ++ r7) ++ r8) ++ r9))] (W2 a0) ?_)))))))))))))))))))
         exact F19_j21_ok n a0 ((((((r2 ++ r3) ++ r4) ++ r6) ++ r7) ++ r8) ++ r9)
        ·exact SimI.vac rfl
def F46_e : ByteArray → PV × List Ob := fun r => (.one (ls r), [])
def F46 (n : Nat) (a0 : Int) : Option ByteArray :=
 some (mkStr [IntKind.wrap .u8 a0, IntKind.wrap .u8 (shrI .u32 a0 8), IntKind.wrap .u8 (shrI .u32 a0 16), IntKind.wrap .u8 (shrI .u32 a0 24)])
theorem F46_ok (n : Nat) (a0 : Int) : ∀ r, F46 n a0 = some r → D 46 [.one (li .u32 a0)] [] = some (F46_e r) := by
 refine fn_to (D := D) (n := n + 8) (nt := 16) (rs := pc46_r) (c := p46c5) (L := [(0, .one (li .u32 a0))]) (M := []) (k := 0) rfl rfl rfl rfl rfl rfl rfl ?_
 unfold F46
 exact Sim.su 1 [] (.sv 12 [] (.se ⟨some 15, .b2s 14, none, []⟩ [(15, qs (mkStr [IntKind.wrap .u8 a0, IntKind.wrap .u8 (shrI .u32 a0 8), IntKind.wrap .u8 (shrI .u32 a0 16), IntKind.wrap .u8 (shrI .u32 a0 24)]))] [] (pe (eff_b2s (l := [IntKind.wrap .u8 a0, IntKind.wrap .u8 (shrI .u32 a0 8), IntKind.wrap .u8 (shrI .u32 a0 16), IntKind.wrap .u8 (shrI .u32 a0 24)]) (by kernel_rfl))) (.ru 1 [] (.thenN (.ret .fn)))))
def F47_e : Int → PV × List Ob := fun r => (.one (li .u32 r), [])
def F47_l15 (n : Nat) (i6 : Int) (rec_l7 : Int → Int → Option Int) : Nat → Int → Int → Option Int
 | 0, _, _ => none
 | m + 1, i13, i14 =>
  if decide (i14 < 8) then
   if (bitsI .and .u32 i13 1) == 1 then
    (F47_l15 n i6 rec_l7 m) (bitsI .xor .u32 (shrI .u32 i13 1) 3988292384) (IntKind.wrap .i64 (i14 + 1))
   else
    (F47_l15 n i6 rec_l7 m) (shrI .u32 i13 1) (IntKind.wrap .i64 (i14 + 1))
  else
   rec_l7 i13 (IntKind.wrap .i64 (i6 + 1))
theorem F47_l15_ok (n : Nat) (a0 : ByteArray) (i6 : Int) (rec_l7 : Int → Int → Option Int) (m_l7 : Nat) (ih_l7 : ∀ (i5 i6 : Int), SimL Tryz.prog D (n + 8) m_l7 p47c38 (W81 i5 a0 i6) [] (rec_l7 i5 i6) (QB 0 (QT Tryz.prog D (n + 8) p47c44 (QF false pc47_r 0 F47_e)))) : ∀ (m : Nat) (i13 i14 : Int), SimL Tryz.prog D (n + 8) m p47c28 [(3, .one (li .u32 i13)), (8, .one (vw (codI .u8) (bytesL a0))), (9, qj ((bytesL a0).length : Int)), (10, qj i6), (18, qj i14)] [] (F47_l15 n i6 rec_l7 m i13 i14) (QB 2 (QB 1 (QT Tryz.prog D (n + 8) p47c35 (QL Tryz.prog D (n + 8) m_l7 p47c38 (QB 0 (QT Tryz.prog D (n + 8) p47c44 (QF false pc47_r 0 F47_e))))))) := by
 intro m_l15
 induction m_l15 with
 | zero => intro i13 i14; exact SimL.zero'  rfl
 | succ m_l15 ih_l15 =>
  intro i13 i14
  refine SimL.succ ?_
  unfold F47_l15
  refine Sim.seq (.rg [(3, .one (li .u32 i13)), (8, .one (vw (codI .u8) (bytesL a0))), (9, qj ((bytesL a0).length : Int)), (10, qj i6), (18, qj i14)] [] (.ru 1 [] (.thenN (.seq (.cd _ ?_ ?_)))))
  ·refine Sim.skip (.thenN (.seq (.block (.su 3 [] (.su 3 [] (.su 2 [] (.cd _ ?_ ?_)))))))
   ·refine Sim.region0 (.ru 3 [] (.blockN (.thenN (.region0 (.ru 2 [] (.loopN (.pr [3, 8, 9, 10, 18] [] [] [(3, .one (li .u32 (bitsI .xor .u32 (shrI .u32 i13 1) 3988292384))), (8, .one (vw (codI .u8) (bytesL a0))), (9, qj ((bytesL a0).length : Int)), (10, qj i6), (18, qj (iw .i64 (i14 + 1)))] [] ?_)))))))
    exact ih_l15 (bitsI .xor .u32 (shrI .u32 i13 1) 3988292384) (iw .i64 (i14 + 1))
   ·refine Sim.skip (.blockN (.thenN (.region0 (.ru 2 [] (.loopN (.pr [3, 8, 9, 10, 18] [] [] [(3, .one (li .u32 (shrI .u32 i13 1))), (8, .one (vw (codI .u8) (bytesL a0))), (9, qj ((bytesL a0).length : Int)), (10, qj i6), (18, qj (iw .i64 (i14 + 1)))] [] ?_))))))
    exact ih_l15 (shrI .u32 i13 1) (iw .i64 (i14 + 1))
  ·refine Sim.exit (.thenX (.loopX (.blockX (.blockN (.thenN (.region0 (.ru 2 [] (.loopN (.pr [3, 8, 9, 10] [] [] [(3, .one (li .u32 i13)), (8, .one (vw (codI .u8) (bytesL a0))), (9, qj ((bytesL a0).length : Int)), (10, qj (iw .i64 (i6 + 1)))] [] ?_)))))))))
   exact ih_l7 i13 (iw .i64 (i6 + 1))
def F47_l7 (n : Nat) (a0 : ByteArray) : Nat → Int → Int → Option Int
 | 0, _, _ => none
 | m + 1, i5, i6 =>
  if decide (i6 < ((bytesL a0).length : Int)) then
   (ix (bytesL a0) i6).bind fun (x8 : Int) =>
   F47_l15 n i6 (F47_l7 n a0 m) (n + 8) (bitsI .xor .u32 i5 (IntKind.wrap .u32 x8)) 0
  else
   some (bitsI .xor .u32 i5 4294967295)
theorem F47_l7_ok (n : Nat) (a0 : ByteArray) : ∀ (m : Nat) (i5 i6 : Int), SimL Tryz.prog D (n + 8) m p47c38 (W81 i5 a0 i6) [] (F47_l7 n a0 m i5 i6) (QB 0 (QT Tryz.prog D (n + 8) p47c44 (QF false pc47_r 0 F47_e))) := by
 intro m_l7
 induction m_l7 with
 | zero => intro i5 i6; exact SimL.zero'  rfl
 | succ m_l7 ih_l7 =>
  intro i5 i6
  refine SimL.succ ?_
  unfold F47_l7
  refine Sim.seq (.rg (W81 i5 a0 i6) [] (.ru 1 [] (.thenN (.seq (.cd _ ?_ ?_)))))
  ·refine Sim.skip (.thenN (.seq (.block (.seq (.region0 (.bn ⟨some 12, .iaddrS 1 8 10, none, []⟩ (fun x8 => [(12, .one (.eptr ((codI .u8).enc x8) 0))]) (fun x8 => []) (fun x8 hr => pe (ei (c := (codI .u8)) (k := .i64) hr)) (fun x8 => ?_)))))))
   refine SimI.ru 2 [] (.thenN (.su 5 [] (.su 1 [] (.block (.loop (.pr [3, 8, 9, 10, 18] [] [] [(3, .one (li .u32 (bitsI .xor .u32 i5 (iw .u32 x8)))), (8, .one (vw (codI .u8) (bytesL a0))), (9, qj ((bytesL a0).length : Int)), (10, qj i6), (18, qj 0)] [] ?_))))))
   exact F47_l15_ok n a0 i6 (F47_l7 n a0 m_l7) m_l7 ih_l7 (n + 8) (bitsI .xor .u32 i5 (iw .u32 x8)) 0
  ·exact Sim.exit (.thenX (.loopX (.blockX (.thenN (.su 3 [] (.ret .fn))))))
def F47 (n : Nat) (a0 : ByteArray) : Option Int :=
 F47_l7 n a0 (n + 8) 4294967295 0
theorem F47_ok (n : Nat) (a0 : ByteArray) : ∀ r, F47 n a0 = some r → D 47 [.one (ls a0)] [] = some (F47_e r) := by
 refine fn_to (D := D) (n := n + 8) (nt := 32) (rs := pc47_r) (c := p47c47) (L := [(0, qs a0)]) (M := []) (k := 0) rfl rfl rfl rfl rfl rfl rfl ?_
 unfold F47
 refine Sim.su 1 [] (.su 1 [] (.seq (.sv 1 [] (.se ⟨some 8, .s2b 5 7, none, []⟩ [(8, .one (vw (codI .u8) (bytesL a0)))] [] (pe (eff_s2b (s := a0) (by kernel_rfl))) (.ru 2 [] (.thenN (.block (.loop (.pr [3, 8, 9, 10] [] [] [(3, .one (li .u32 4294967295)), (8, .one (vw (codI .u8) (bytesL a0))), (9, qj ((bytesL a0).length : Int)), (10, qj 0)] [] ?_)))))))))
 exact F47_l7_ok n a0 (n + 8) 4294967295 0
def F21_e : ByteArray → PV × List Ob := fun r => (.one (ls r), [])
def F21 (n : Nat) (a0 : ByteArray) : Option ByteArray :=
 (F45 n a0).bind fun (r1 : ByteArray) =>
 (F47 n a0).bind fun (r2 : Int) =>
 (F46 n r2).bind fun (r3 : ByteArray) =>
 if r1.size + r3.size ≤ 9223372036854775807 then
  some (r1 ++ r3)
 else none
theorem F21_ok (n : Nat) (a0 : ByteArray) : ∀ r, F21 n a0 = some r → D 21 [.one (ls a0)] [] = some (F21_e r) := by
 refine fn_to (D := D) (n := n + 8) (nt := 9) (rs := pc21_r) (c := p21c5) (L := [(0, qs a0)]) (M := []) (k := 0) rfl rfl rfl rfl rfl rfl rfl ?_
 unfold F21
 refine Sim.su 1 [] (.sv 1 [] (.cl 4 true [[]] 45 [3] none (fun r1 => qs r1) [qs a0] (F45_ok _ _) (fun r1 => ?_)))
 refine SimI.rv 1 [] (.cl 6 true [[]] 47 [5] none (fun r2 => .one (li .u32 r2)) [qs a0] (F47_ok _ _) (fun r2 => ?_))
 refine SimI.cl 7 true [[]] 46 [6] none _ _ (F46_ok _ _) (fun r3 => ?_)
 exact SimI.gp 8 (.bin .add 9 false false) [4, 7] none [] (fun hc => pr_addS _ _ _ r1 r3 hc) (.ru 1 [] (.thenN (.ret .fn)))
def F6_e : (ByteArray × Int) → PV × List Ob := fun r => (.tup [.one (ls r.1), .one (li .i64 r.2)], [])
def F6_l27 (n : Nat) (a0 : Note) : Nat → Int → (List Int) → Option (ByteArray × Int)
 | 0, _, _ => none
 | m + 1, i25, l26 =>
  if decide (i25 < ((a0.Watch).length : Int)) then
   (ix a0.Watch i25).bind fun (x28 : Command) =>
   (F19 n x28).bind fun (r29 : (ByteArray × Int)) =>
   (bldAdd l26 r29.1).bind fun (l30 : (List Int)) =>
   (F6_l27 n a0 m) (IntKind.wrap .i64 (i25 + 1)) l30
  else
   (bldLen l26).bind fun (i31 : Int) =>
   if decide ((40000 : Int) < i31) then
    some (ByteArray.empty, 13)
   else
    (bldStr l26).bind fun (s32 : ByteArray) =>
    (F21 n s32).bind fun (r33 : ByteArray) =>
    some (r33, 0)
theorem F6_l27_ok (n : Nat) (a0 : Note) : ∀ (m : Nat) (i25 : Int) (l26 : (List Int)), SimL Tryz.prog D (n + 8) m p6c44 [(8, qp 8 0), (75, .one (vw Command.cod a0.Watch)), (76, qj ((a0.Watch).length : Int)), (77, qj i25)] (W26 l26) (F6_l27 n a0 m i25 l26) (QB 2 (QT Tryz.prog D (n + 8) p6c58 (QF false pc6_r 0 F6_e))) := by
 intro m_l27
 induction m_l27 with
 | zero => intro i25 l26; exact SimL.zero'  rfl
 | succ m_l27 ih_l27 =>
  intro i25 l26
  refine SimL.succ ?_
  unfold F6_l27
  refine Sim.seq (.rg [(8, qp 8 0), (75, .one (vw Command.cod a0.Watch)), (76, qj ((a0.Watch).length : Int)), (77, qj i25)] (W26 l26) (.ru 1 [] (.thenN (.seq (.cd _ ?_ ?_)))))
  ·refine Sim.skip (.thenN (.seq (.block (.seq (.region0 (.bn ⟨some 79, .iaddrS 22 75 77, none, []⟩ (fun x28 => [(79, .one (.eptr (Command.cod.enc x28) 0))]) (fun x28 => []) (fun x28 hr => pe (ei (c := Command.cod) (k := .i64) hr)) (fun x28 => ?_)))))))
   refine SimI.ru 3 [(12, some (.cells (Command.cells x28))), (12, some (.cells W0))] (.thenN (.sv 1 [] (.cl 83 true [[]] 19 [82] none (fun r29 => .tup [qs r29.1, qj r29.2]) [.agg (Command.cells x28)] (F19_ok _ _) (fun r29 => ?_))))
   refine SimI.ru 5 [] (.thenN (.region0 (.rv 1 [] (.bn ⟨some 87, .gcall false false W31 [[(1, 1)], []] 17 [8, 86], none, []⟩ (fun l30 => [(87, .tup [qj (r29.1.size : Int), .one (.val (.nilIface))])]) (fun l30 => (W24 l30)) (fun l30 hr => pe (gq (ks := [8, 400064]) (ARGS := [qp 8 0, qs r29.1]) (D_add (a := .ptr 1000000 0) (by kernel_rfl) (l := l26) (s := r29.1) l30 hr))) (fun l30 => ?_)))))
   refine SimI.dn (.blockN (.thenN (.region0 (.ru 2 [] (.loopN (.pr [8, 75, 76, 77] [1, 8, 12, 400064] [] [(8, qp 8 0), (75, .one (vw Command.cod a0.Watch)), (76, qj ((a0.Watch).length : Int)), (77, qj (iw .i64 (i25 + 1)))] (W26 l30) ?_))))))
   exact ih_l27 (iw .i64 (i25 + 1)) l30
  ·refine Sim.exit (.thenX (.loopX (.blockX (.thenN (.seq (.seq (.region0 (.bn ⟨some 89, .gcall false false W31 [[(1, 1)]] 20 [8], none, []⟩ (fun i31 => [(89, qj i31)]) (fun i31 => [(8, some (.tcells 61 [.ptr 8 0, .osl 400064 (0 + 0) 0 (l26).length])), (400064, some (.arr 5 (codI .u8).sz (0 + 0) (l26).length (getOf (codI .u8) l26)))]) (fun i31 hr => pe (gq (ks := [8, 400064]) (ARGS := [qp 8 0]) (D_len (a := .ptr 1000000 0) (by kernel_rfl) (l := l26) i31 hr))) (fun i31 => ?_)))))))))
   refine SimI.ru 1 [] (.thenN (.cd _ ?_ ?_))
   ·exact Sim.su 2 [] (.ret (.thenR .fn))
   ·refine Sim.skip (.thenN (.seq (.region0 (.bn ⟨some 91, .gcall false false W31 [[(1, 1)]] 22 [8], none, []⟩ (fun s32 => [(91, qs s32)]) (fun s32 => [(8, some (.tcells 61 [.ptr 8 0, .osl 400064 ((0 + 0) + 0) 0 (l26).length])), (400064, some (.arr 5 (codI .u8).sz ((0 + 0) + 1) (([] : List Int)).length (getOf (codI .u8) ([] : List Int))))]) (fun s32 hr => pe (gq (ks := [8, 400064]) (ARGS := [qp 8 0]) (D_str (a := .ptr 1000000 0) (by kernel_rfl) (l := l26) s32 hr))) (fun s32 => ?_)))))
    refine SimI.cl 92 true [[]] 21 [91] none _ _ (F21_ok _ _) (fun r33 => ?_)
    exact SimI.ru 2 [] (.thenN (.ret .fn))
def F6_l14 (n : Nat) (a0 : Note) : Nat → Int → (List Int) → Option (ByteArray × Int)
 | 0, _, _ => none
 | m + 1, i12, l13 =>
  if decide (i12 < ((a0.Hands).length : Int)) then
   (ix a0.Hands i12).bind fun (x15 : Hand) =>
   (F18 n (IntKind.wrap .u64 x15.Cell)).bind fun (r16 : ByteArray) =>
   (F18 n (IntKind.wrap .u64 x15.To)).bind fun (r17 : ByteArray) =>
   if r16.size + r17.size ≤ 9223372036854775807 then
    (bldAdd l13 (r16 ++ r17)).bind fun (l18 : (List Int)) =>
    (F6_l14 n a0 m) (IntKind.wrap .i64 (i12 + 1)) l18
   else none
  else
   (F18 n (IntKind.wrap .u64 ((a0.Watch).length : Int))).bind fun (r19 : ByteArray) =>
   (bldAdd l13 r19).bind fun (l20 : (List Int)) =>
   F6_l27 n a0 (n + 8) 0 l20
theorem F6_l14_ok (n : Nat) (a0 : Note) : ∀ (m : Nat) (i12 : Int) (l13 : (List Int)), SimL Tryz.prog D (n + 8) m p6c25 [(1, qp 1 0), (8, qp 8 0), (51, .one (vw Hand.cod a0.Hands)), (52, qj ((a0.Hands).length : Int)), (53, qj i12)] [(1, some (.cells (W7 a0))), (8, some (.tcells 61 (W126 l13))), (400064, some (.arr 5 (codI .u8).sz 0 (l13).length (getOf (codI .u8) l13)))] (F6_l14 n a0 m i12 l13) (QB 0 (QT Tryz.prog D (n + 8) p6c60 (QF false pc6_r 0 F6_e))) := by
 intro m_l14
 induction m_l14 with
 | zero => intro i12 l13; exact SimL.zero'  rfl
 | succ m_l14 ih_l14 =>
  intro i12 l13
  refine SimL.succ ?_
  unfold F6_l14
  refine Sim.seq (.rg [(1, qp 1 0), (8, qp 8 0), (51, .one (vw Hand.cod a0.Hands)), (52, qj ((a0.Hands).length : Int)), (53, qj i12)] [(1, some (.cells (w0 a0))), (8, some (.tcells 61 (W126 l13))), (400064, some (.arr 5 (codI .u8).sz 0 (l13).length (getOf (codI .u8) l13)))] (.ru 1 [] (.thenN (.seq (.cd _ ?_ ?_)))))
  ·refine Sim.skip (.thenN (.seq (.block (.seq (.region0 (.bn ⟨some 55, .iaddrS 2 51 53, none, []⟩ (fun x15 => [(55, .one (.eptr (Hand.cod.enc x15) 0))]) (fun x15 => []) (fun x15 hr => pe (ei (c := Hand.cod) (k := .i64) hr)) (fun x15 => ?_)))))))
   refine SimI.ru 3 [(10, some (.cells [lj x15.Cell, lj x15.To])), (10, some (.cells [lj 0, lj 0]))] (.thenN (.region0 (.rv 3 [] (.cm 60 false [[]] 18 [59] none [(59, .imm)] (F18_ok _ _) (fun r16 => ?_)))))
   refine SimI.rv 3 [] (.cm 64 false [[]] 18 [63] none [(63, .imm)] (F18_ok _ _) (fun r17 => ?_))
   refine SimI.gp 65 (.bin .add 9 false false) [60, 64] none [(60, .imm), (64, .imm)] (fun hc => pr_addS _ _ _ r16 r17 hc) (.bn ⟨some 66, .gcall false false W31 [[(1, 1)], []] 17 [8, 65], none, [(8, .at_ 8 0), (65, .imm)]⟩ (fun l18 => [(66, .tup [qj ((r16 ++ r17).size : Int), .one (.val (.nilIface))])]) (fun l18 => (W24 l18)) (fun l18 hr => pe (gq (ks := [8, 400064]) (ARGS := [qp 8 0, qs (r16 ++ r17)]) (D_add (a := .ptr 1000000 0) (by kernel_rfl) (l := l13) (s := r16 ++ r17) l18 hr))) (fun l18 => ?_))
   refine SimI.dn (.blockN (.thenN (.region0 (.ru 2 [] (.loopN (.pr [1, 8, 51, 52, 53] [1, 8, 10, 400064] [] [(1, qp 1 0), (8, qp 8 0), (51, .one (vw Hand.cod a0.Hands)), (52, qj ((a0.Hands).length : Int)), (53, qj (iw .i64 (i12 + 1)))] [(1, some (.cells (w0 a0))), (8, some (.tcells 61 (W126 l18))), (400064, some (.arr 5 (codI .u8).sz 0 (l18).length (getOf (codI .u8) l18)))] ?_))))))
   exact ih_l14 (iw .i64 (i12 + 1)) l18
  ·refine Sim.exit (.thenX (.loopX (.blockX (.thenN (.sv 4 [] (.cl 72 true [[]] 18 [71] none (fun r19 => qs r19) [.one (li .u64 (iw .u64 ((a0.Watch).length : Int)))] (F18_ok _ _) (fun r19 => ?_)))))))
   refine SimI.bn ⟨some 73, .gcall false false W31 [[(1, 1)], []] 17 [8, 72], none, []⟩ (fun l20 => [(73, .tup [qj (r19.size : Int), .one (.val (.nilIface))])]) (fun l20 => (W24 l20)) (fun l20 hr => pe (gq (ks := [8, 400064]) (ARGS := [qp 8 0, qs r19]) (D_add (a := .ptr 1000000 0) (by kernel_rfl) (l := l13) (s := r19) l20 hr))) (fun l20 => ?_)
   refine SimI.dn (.thenN (.seq (.su 4 [] (.block (.loop (.pr [8, 75, 76, 77] [1, 8, 12, 400064] [] [(8, qp 8 0), (75, .one (vw Command.cod a0.Watch)), (76, qj ((a0.Watch).length : Int)), (77, qj 0)] (W26 l20) ?_))))))
   exact F6_l27_ok n a0 (n + 8) 0 l20
def F6 (n : Nat) (a0 : Note) : Option (ByteArray × Int) :=
 (F12 n a0 4).bind fun (r1 : Bool) =>
 if !(r1) then
  some (ByteArray.empty, 11)
 else
  (F16 n a0.Moved).bind fun (r2 : (ByteArray × Int)) =>
  (F16 n a0.Given).bind fun (r3 : (ByteArray × Int)) =>
  (F18 n (IntKind.wrap .u64 a0.From)).bind fun (r4 : ByteArray) =>
  (F18 n (IntKind.wrap .u64 a0.Beat)).bind fun (r5 : ByteArray) =>
  if r4.size + r5.size ≤ 9223372036854775807 then
   if (r4 ++ r5).size + r2.1.size ≤ 9223372036854775807 then
    if ((r4 ++ r5) ++ r2.1).size + r3.1.size ≤ 9223372036854775807 then
     (F18 n (IntKind.wrap .u64 ((a0.Hands).length : Int))).bind fun (r6 : ByteArray) =>
     if (((r4 ++ r5) ++ r2.1) ++ r3.1).size + r6.size ≤ 9223372036854775807 then
      (bldAdd ([] : List Int) ((((r4 ++ r5) ++ r2.1) ++ r3.1) ++ r6)).bind fun (l7 : (List Int)) =>
      F6_l14 n a0 (n + 8) 0 l7
     else none
    else none
   else none
  else none
theorem F6_ok (n : Nat) (a0 : Note) : ∀ r, F6 n a0 = some r → D 6 [.agg [li .i64 a0.From, li .i64 a0.Beat, vw Thing.cod a0.Moved, vw Hand.cod a0.Hands, vw Thing.cod a0.Given, vw Command.cod a0.Watch]] [] = some (F6_e r) := by
 refine fn_to (D := D) (n := n + 8) (nt := 93) (rs := pc6_r) (c := p6c67) (L := [(0, .agg (w0 a0))]) (M := []) (k := 0) rfl rfl rfl rfl rfl rfl rfl ?_
 unfold F6
 refine Sim.su 3 [(1, some (.cells (w0 a0)))] (.seq (.sv 1 [] (.cl 16 true [[(2, 11), (3, 2), (4, 11), (5, 22)], []] 12 [15, kk 4] none (fun r1 => qb r1) [.agg (w0 a0), qj 4] (F12_ok _ _ _) (fun r1 => ?_))))
 refine SimI.ru 1 [] (.thenN (.cd _ ?_ ?_))
 ·exact Sim.su 2 [] (.ret (.thenR .fn))
 ·refine Sim.skip (.thenN (.sv 2 [] (.cl 21 true [[(0, 11)]] 16 [20] none (fun r2 => .tup [qs r2.1, qj r2.2]) [.one (vw Thing.cod a0.Moved)] (F16_ok _ _) (fun r2 => ?_))))
  refine SimI.ru 5 [] (.thenN (.sv 2 [] (.cl 27 true [[(0, 11)]] 16 [26] none (fun r3 => .tup [qs r3.1, qj r3.2]) [.one (vw Thing.cod a0.Given)] (F16_ok _ _) (fun r3 => ?_))))
  refine SimI.ru 5 [] (.thenN (.su 1 [(8, some (.tcells 61 [.val (.pointer none), .osl 400064 0 0 (([] : List Int)).length])), (400064, some (.arr 5 (codI .u8).sz 0 (([] : List Int)).length (getOf (codI .u8) ([] : List Int))))] (.sv 3 [] (.cm 33 false [[]] 18 [32] none [(32, .imm)] (F18_ok _ _) (fun r4 => ?_)))))
  refine SimI.rv 3 [] (.cm 37 false [[]] 18 [36] none [(36, .imm)] (F18_ok _ _) (fun r5 => ?_))
  refine SimI.gp 38 (.bin .add 9 false false) [33, 37] none [(33, .imm), (37, .imm)] (fun hc => pr_addS _ _ _ r4 r5 hc) (.rv 1 [] (.gp 40 (.bin .add 9 false false) [38, 39] none [(38, .imm), (39, .imm)] (fun hc => pr_addS _ _ _ (r4 ++ r5) r2.1 hc) (.rv 1 [] (.gp 42 (.bin .add 9 false false) [40, 41] none [(40, .imm), (41, .imm)] (fun hc => pr_addS _ _ _ ((r4 ++ r5) ++ r2.1) r3.1 hc) (.rv 4 [] (.cm 47 false [[]] 18 [46] none [(46, .imm)] (F18_ok _ _) (fun r6 => ?_)))))))
  refine SimI.gp 48 (.bin .add 9 false false) [42, 47] none [(42, .imm), (47, .imm)] (fun hc => pr_addS _ _ _ (((r4 ++ r5) ++ r2.1) ++ r3.1) r6 hc) (.bn ⟨some 49, .gcall false false W31 [[(1, 1)], []] 17 [8, 48], none, [(8, .at_ 8 0), (48, .imm)]⟩ (fun l7 => [(49, .tup [qj (((((r4 ++ r5) ++ r2.1) ++ r3.1) ++ r6).size : Int), .one (.val (.nilIface))])]) (fun l7 => (W24 l7)) (fun l7 hr => pe (gq (ks := [8, 400064]) (ARGS := [qp 8 0, qs ((((r4 ++ r5) ++ r2.1) ++ r3.1) ++ r6)]) (D_add (a := .val (.pointer none)) (by kernel_rfl) (l := ([] : List Int)) (s := (((r4 ++ r5) ++ r2.1) ++ r3.1) ++ r6) l7 hr))) (fun l7 => ?_))
  refine SimI.dn (.thenN (.seq (.su 4 [] (.block (.loop (.pr [1, 8, 51, 52, 53] [1, 8, 10, 400064] [] [(1, qp 1 0), (8, qp 8 0), (51, .one (vw Hand.cod a0.Hands)), (52, qj ((a0.Hands).length : Int)), (53, qj 0)] [(1, some (.cells (w0 a0))), (8, some (.tcells 61 (W126 l7))), (400064, some (.arr 5 (codI .u8).sz 0 (l7).length (getOf (codI .u8) l7)))] ?_))))))
  exact F6_l14_ok n a0 (n + 8) 0 l7
def F82_e : (Int × Int × Int) → PV × List Ob := fun r => (.tup [.one (li .u64 r.1), .one (li .i64 r.2.1), .one (li .i64 r.2.2)], [])
def F82_j13 (n : Nat) (i11 i12 : Int) : Option (Int × Int × Int) :=
  if i12 == 0 then
   some (0, 0, 10)
  else
   some (i11, i12, 0)
theorem F82_j13_ok (n : Nat) (i11 i12 : Int) : Sim Tryz.prog D (n + 8) p82c51 [(5, .one (li .u64 i11)), (6, qj i12)] [] (F82_j13 n i11 i12) (QF false pc82_r 0 F82_e) := by
  unfold F82_j13
  refine Sim.seq (.seq (.rs (.ru 2 [] (.thenN (.cd _ ?_ ?_)))))
  ·exact Sim.su 3 [] (.ret (.thenR .fn))
  ·exact Sim.skip (.thenN (.su 5 [] (.ret .fn)))
def F82_j10 (n : Nat) (i5 i6 x8 : Int) (rec_l7 : Int → Int → Option (Int × Int × Int)) : Option (Int × Int × Int) :=
  if decide (x8 < 128) then
   if ¬ (IntKind.wrap .i64 (7 * i6) < 0) then
    F82_j13 n (bitsI .or .u64 i5 (shlI .u64 (IntKind.wrap .u64 x8) (IntKind.wrap .i64 (7 * i6)))) (IntKind.wrap .i64 (i6 + 1))
   else none
  else
   if ¬ (IntKind.wrap .i64 (7 * i6) < 0) then
    rec_l7 (bitsI .or .u64 i5 (shlI .u64 (IntKind.wrap .u64 (bitsI .andNot .u8 x8 128)) (IntKind.wrap .i64 (7 * i6)))) (IntKind.wrap .i64 (i6 + 1))
   else none
theorem F82_j10_ok (n : Nat) (a0 : ByteArray) (i5 i6 x8 : Int) (rec_l7 : Int → Int → Option (Int × Int × Int)) (m_l7 : Nat) (ih_l7 : ∀ (i5 i6 : Int), SimL Tryz.prog D (n + 8) m_l7 p82c37 (W45 i5 a0 i6) [] (rec_l7 i5 i6) (QB 0 (QT Tryz.prog D (n + 8) p82c51 (QF false pc82_r 0 F82_e)))) : Sim Tryz.prog D (n + 8) p82c26 (W10 i5 i6 x8 a0) [] (F82_j10 n i5 i6 x8 rec_l7) (QB 2 (QT Tryz.prog D (n + 8) p82c30 (QB 1 (QT Tryz.prog D (n + 8) p82c34 (QL Tryz.prog D (n + 8) m_l7 p82c37 (QB 0 (QT Tryz.prog D (n + 8) p82c51 (QF false pc82_r 0 F82_e)))))))) := by
  unfold F82_j10
  refine Sim.seq (.rs (.ru 3 [] (.thenN (.cd _ ?_ ?_))))
  ·refine Sim.sv 5 [] (.gp 38 (.bin .shl 67 false false) [35, 37] none [] (fun hc => pr_shl _ _ _ .u64 .i64 (iw .u64 x8) (iw .i64 (7 * i6)) hc) (.ru 2 [] (.thenN (.su 3 [] (.exit (.blockY rfl (.thenX (.blockY rfl (.thenX (.loopX (.blockX (.thenN (.pr [5, 6] [] [] [(5, .one (li .u64 (bitsI .or .u64 i5 (shlI .u64 (iw .u64 x8) (iw .i64 (7 * i6)))))), (6, qj (iw .i64 (i6 + 1)))] [] ?_)))))))))))))
   exact F82_j13_ok n (bitsI .or .u64 i5 (shlI .u64 (iw .u64 x8) (iw .i64 (7 * i6)))) (iw .i64 (i6 + 1))
  ·refine Sim.skip (.blockN (.thenN (.region0 (.rv 6 [] (.gp 48 (.bin .shl 67 false false) [45, 47] none [] (fun hc => pr_shl _ _ _ .u64 .i64 (iw .u64 (bitsI .andNot .u8 x8 128)) (iw .i64 (7 * i6)) hc) (.ru 2 [] (.blockN (.thenN (.region0 (.ru 2 [] (.loopN (.pr [5, 6, 10, 11, 12] [] [] [(5, .one (li .u64 (bitsI .or .u64 i5 (shlI .u64 (iw .u64 (bitsI .andNot .u8 x8 128)) (iw .i64 (7 * i6)))))), (6, qj 0), (10, .one (vw (codI .u8) (bytesL a0))), (11, qj ((bytesL a0).length : Int)), (12, qj (iw .i64 (i6 + 1)))] [] ?_))))))))))))
   exact ih_l7 (bitsI .or .u64 i5 (shlI .u64 (iw .u64 (bitsI .andNot .u8 x8 128)) (iw .i64 (7 * i6)))) (iw .i64 (i6 + 1))
def F82_j9 (n : Nat) (i5 i6 x8 : Int) (rec_l7 : Int → Int → Option (Int × Int × Int)) : Option (Int × Int × Int) :=
  if decide ((0 : Int) < i6) then
   if x8 == 0 then
    some (0, 0, 11)
   else
    F82_j10 n i5 i6 x8 rec_l7
  else
   F82_j10 n i5 i6 x8 rec_l7
theorem F82_j9_ok (n : Nat) (a0 : ByteArray) (i5 i6 x8 : Int) (rec_l7 : Int → Int → Option (Int × Int × Int)) (m_l7 : Nat) (ih_l7 : ∀ (i5 i6 : Int), SimL Tryz.prog D (n + 8) m_l7 p82c37 (W45 i5 a0 i6) [] (rec_l7 i5 i6) (QB 0 (QT Tryz.prog D (n + 8) p82c51 (QF false pc82_r 0 F82_e)))) : Sim Tryz.prog D (n + 8) p82c12 (W10 i5 i6 x8 a0) [] (F82_j9 n i5 i6 x8 rec_l7) (QT Tryz.prog D (n + 8) p82c27 (QB 2 (QT Tryz.prog D (n + 8) p82c30 (QB 1 (QT Tryz.prog D (n + 8) p82c34 (QL Tryz.prog D (n + 8) m_l7 p82c37 (QB 0 (QT Tryz.prog D (n + 8) p82c51 (QF false pc82_r 0 F82_e))))))))) := by
  unfold F82_j9
  refine Sim.rs (.rv 3 [] (.sp 26 _ ?_ ?_))
  ·refine SimI.ru 4 [] (.thenN (.cd _ ?_ ?_))
   ·exact Sim.su 3 [] (.ret (.blockR (.thenR (.blockR (.thenR (.loopR (.blockR (.thenR .fn))))))))
   ·refine Sim.pr [5, 6, 7, 8, 10, 11, 12] [] [] (W10 i5 i6 x8 a0) [] ?_
    exact F82_j10_ok n a0 i5 i6 x8 rec_l7 m_l7 ih_l7
  ·refine SimI.ru 4 [] (.thenN (.cf (.pr [5, 6, 7, 8, 10, 11, 12] [] [] (W10 i5 i6 x8 a0) [] ?_)))
   exact F82_j10_ok n a0 i5 i6 x8 rec_l7 m_l7 ih_l7
def F82_l7 (n : Nat) (a0 : ByteArray) : Nat → Int → Int → Option (Int × Int × Int)
 | 0, _, _ => none
 | m + 1, i5, i6 =>
  if decide (i6 < ((bytesL a0).length : Int)) then
   (ix (bytesL a0) i6).bind fun (x8 : Int) =>
   if i6 == 9 then
    if decide ((1 : Int) < x8) then
     if decide ((1 : Int) < x8) then
      some (0, 0, 11)
     else
      F82_j10 n i5 i6 x8 (F82_l7 n a0 m)
    else
     F82_j9 n i5 i6 x8 (F82_l7 n a0 m)
   else
    F82_j9 n i5 i6 x8 (F82_l7 n a0 m)
  else
   F82_j13 n i5 0
theorem F82_l7_ok (n : Nat) (a0 : ByteArray) : ∀ (m : Nat) (i5 i6 : Int), SimL Tryz.prog D (n + 8) m p82c37 (W45 i5 a0 i6) [] (F82_l7 n a0 m i5 i6) (QB 0 (QT Tryz.prog D (n + 8) p82c51 (QF false pc82_r 0 F82_e))) := by
 intro m_l7
 induction m_l7 with
 | zero => intro i5 i6; exact SimL.zero'  rfl
 | succ m_l7 ih_l7 =>
  intro i5 i6
  refine SimL.succ ?_
  unfold F82_l7
  refine Sim.seq (.rg (W45 i5 a0 i6) [] (.ru 1 [] (.thenN (.seq (.cd _ ?_ ?_)))))
  ·refine Sim.skip (.thenN (.seq (.block (.sv 1 [] (.bn ⟨some 15, .iaddrS 1 10 12, none, []⟩ (fun x8 => [(15, .one (.eptr ((codI .u8).enc x8) 0))]) (fun x8 => []) (fun x8 hr => pe (ei (c := (codI .u8)) (k := .i64) hr)) (fun x8 => ?_))))))
   refine SimI.ru 3 [] (.thenN (.seq (.block (.seq (.sv 3 [] (.sp 20 _ ?_ ?_))))))
   ·refine SimI.ru 4 [] (.thenN (.cd _ ?_ ?_))
    ·refine Sim.skip (.thenN (.cd _ ?_ ?_))
     ·exact Sim.su 3 [] (.ret (.blockR (.thenR (.blockR (.thenR (.loopR (.blockR (.thenR .fn))))))))
     ·refine Sim.pr [5, 6, 7, 8, 10, 11, 12] [] [] (W10 i5 i6 x8 a0) [] ?_
      exact F82_j10_ok n a0 i5 i6 x8 (F82_l7 n a0 m_l7) m_l7 ih_l7
    ·refine Sim.pr [5, 6, 7, 8, 10, 11, 12] [] [] (W10 i5 i6 x8 a0) [] ?_
     exact F82_j9_ok n a0 i5 i6 x8 (F82_l7 n a0 m_l7) m_l7 ih_l7
   ·refine SimI.ru 4 [] (.thenN (.cf (.pr [5, 6, 7, 8, 10, 11, 12] [] [] (W10 i5 i6 x8 a0) [] ?_)))
    exact F82_j9_ok n a0 i5 i6 x8 (F82_l7 n a0 m_l7) m_l7 ih_l7
  ·refine Sim.exit (.thenX (.loopX (.blockX (.thenN (.pr [5, 6] [] [] [(5, .one (li .u64 i5)), (6, qj 0)] [] ?_)))))
   exact F82_j13_ok n i5 0
def F82 (n : Nat) (a0 : ByteArray) : Option (Int × Int × Int) :=
 F82_l7 n a0 (n + 8) 0 0
theorem F82_ok (n : Nat) (a0 : ByteArray) : ∀ r, F82 n a0 = some r → D 82 [.one (ls a0)] [] = some (F82_e r) := by
 refine fn_to (D := D) (n := n + 8) (nt := 55) (rs := pc82_r) (c := p82c56) (L := [(0, qs a0)]) (M := []) (k := 0) rfl rfl rfl rfl rfl rfl rfl ?_
 unfold F82
 refine Sim.su 3 [] (.scope (.su 2 [] (.seq (.label (.thenN (.seq (.sv 1 [] (.se ⟨some 10, .s2b 5 9, none, []⟩ [(10, .one (vw (codI .u8) (bytesL a0)))] [] (pe (eff_s2b (s := a0) (by kernel_rfl))) (.ru 2 [] (.thenN (.block (.loop (.pr [5, 6, 10, 11, 12] [] [] [(5, .one (li .u64 0)), (6, qj 0), (10, .one (vw (codI .u8) (bytesL a0))), (11, qj ((bytesL a0).length : Int)), (12, qj 0)] [] ?_)))))))))))))
 exact F82_l7_ok n a0 (n + 8) 0 0
def F56_e : (ByteArray × Int × Int) → PV × List Ob := fun r => (.tup [.one (ls r.1), .one (li .i64 r.2.1), .one (li .i64 r.2.2)], [])
def F56 (n : Nat) (a0 : ByteArray) (a1 : Int) : Option (ByteArray × Int × Int) :=
 (F82 n a0).bind fun (r1 : (Int × Int × Int)) =>
 if r1.2.2 != 0 then
  some (ByteArray.empty, 0, r1.2.2)
 else
  if decide (IntKind.wrap .u64 (imax a1 0) < r1.1) then
   some (ByteArray.empty, 0, 13)
  else
   if decide (IntKind.wrap .u64 (IntKind.wrap .i64 ((a0.size : Int) - r1.2.1)) < r1.1) then
    some (ByteArray.empty, 0, 10)
   else
    if 0 ≤ (r1.2.1 : Int) ∧ (r1.2.1 : Int) ≤ IntKind.wrap .i64 (r1.2.1 + IntKind.wrap .i64 r1.1) ∧ IntKind.wrap .i64 (r1.2.1 + IntKind.wrap .i64 r1.1) ≤ (a0.size : Int) then
     some (a0.extract r1.2.1.toNat (IntKind.wrap .i64 (r1.2.1 + IntKind.wrap .i64 r1.1)).toNat, IntKind.wrap .i64 (r1.2.1 + IntKind.wrap .i64 r1.1), 0)
    else none
theorem F56_ok (n : Nat) (a0 : ByteArray) (a1 : Int) : ∀ r, F56 n a0 a1 = some r → D 56 [.one (ls a0), .one (li .i64 a1)] [] = some (F56_e r) := by
 refine fn_to (D := D) (n := n + 8) (nt := 44) (rs := pc56_r) (c := p56c30) (L := [(0, qs a0), (1, qj a1)]) (M := []) (k := 0) rfl rfl rfl rfl rfl rfl rfl ?_
 unfold F56
 refine Sim.su 3 [] (.sv 1 [] (.cl 13 true [[]] 82 [12] none (fun r1 => .tup (W118 r1)) [qs a0] (F82_ok _ _) (fun r1 => ?_)))
 refine SimI.ru 7 [] (.thenN (.seq (.block (.su 3 [] (.cd _ ?_ ?_)))))
 ·exact Sim.su 4 [] (.ret (.blockR (.thenR .fn)))
 ·refine Sim.su 6 [] (.cd _ ?_ ?_)
  ·exact Sim.su 3 [] (.ret (.blockR (.thenR .fn)))
  ·refine Sim.su 8 [] (.cd _ ?_ ?_)
   ·exact Sim.su 3 [] (.ret (.blockR (.thenR .fn)))
   ·exact Sim.skip (.blockN (.thenN (.su 5 [] (.sv 3 [] (.gp 42 (.slice 9 true true) [39, 40, 41] none [] (fun hc => pr_cutS (s := a0) (k := .i64) (l := .i64) (a := r1.2.1) (b := IntKind.wrap .i64 (r1.2.1 + IntKind.wrap .i64 r1.1)) Tryz.underlying9 hc) (.ru 4 [] (.thenN (.ret .fn))))))))
def F27_e : (ByteArray × Int × Int) → PV × List Ob := fun r => (.tup [.one (ls r.1), .one (li .i64 r.2.1), .one (li .i64 r.2.2)], [])
def F27 (n : Nat) (a0 : ByteArray) : Option (ByteArray × Int × Int) :=
 (F56 n a0 40000).bind fun (r1 : (ByteArray × Int × Int)) =>
 if r1.2.2 != 0 then
  some (ByteArray.empty, 0, r1.2.2)
 else
  if decide (IntKind.wrap .i64 ((a0.size : Int) - r1.2.1) < 4) then
   some (ByteArray.empty, 0, 10)
  else
   if 0 ≤ (r1.2.1 : Int) ∧ (r1.2.1 : Int) ≤ IntKind.wrap .i64 (r1.2.1 + 4) ∧ IntKind.wrap .i64 (r1.2.1 + 4) ≤ (a0.size : Int) then
    (F47 n r1.1).bind fun (r2 : Int) =>
    (F46 n r2).bind fun (r3 : ByteArray) =>
    if !((a0.extract r1.2.1.toNat (IntKind.wrap .i64 (r1.2.1 + 4)).toNat).toList == r3.toList) then
     some (ByteArray.empty, 0, 12)
    else
     some (r1.1, IntKind.wrap .i64 (r1.2.1 + 4), 0)
   else none
theorem F27_ok (n : Nat) (a0 : ByteArray) : ∀ r, F27 n a0 = some r → D 27 [.one (ls a0)] [] = some (F27_e r) := by
 refine fn_to (D := D) (n := n + 8) (nt := 37) (rs := pc27_r) (c := p27c28) (L := [(0, qs a0)]) (M := []) (k := 0) rfl rfl rfl rfl rfl rfl rfl ?_
 unfold F27
 refine Sim.su 3 [] (.sv 1 [] (.cl 10 true [[], []] 56 [9, kk 40000] none (fun r1 => .tup (W76 r1)) [qs a0, qj 40000] (F56_ok _ _ _) (fun r1 => ?_)))
 refine SimI.ru 7 [] (.thenN (.seq (.block (.su 3 [] (.cd _ ?_ ?_)))))
 ·exact Sim.su 4 [] (.ret (.blockR (.thenR .fn)))
 ·refine Sim.su 6 [] (.cd _ ?_ ?_)
  ·exact Sim.su 3 [] (.ret (.blockR (.thenR .fn)))
  ·refine Sim.sv 4 [] (.gp 29 (.slice 9 true true) [25, 26, 28] none [(25, .imm), (26, .imm), (28, .imm)] (fun hc => pr_cutS (s := a0) (k := .i64) (l := .i64) (a := r1.2.1) (b := IntKind.wrap .i64 (r1.2.1 + 4)) Tryz.underlying9 hc) (.rv 1 [] (.cm 31 false [[]] 47 [30] none [(30, .imm)] (F47_ok _ _) (fun r2 => ?_))))
   refine SimI.cm 32 false [[]] 46 [31] none [(31, .imm)] (F46_ok _ _) (fun r3 => ?_)
   refine SimI.ru 2 [] (.thenN (.cd _ ?_ ?_))
   ·exact Sim.su 3 [] (.ret (.blockR (.thenR .fn)))
   ·exact Sim.skip (.blockN (.thenN (.su 6 [] (.ret .fn))))
def F60_e : Reader → PV × List Ob := fun r => (.tup [], [.cells (Reader.cells r)])
def F60 (n : Nat) (a0 : Reader) (a1 a2 : Int) : Option Reader :=
 if a0.fails then
  some (Reader.mk a0.s (IntKind.wrap .i64 (a0.at_ + a1)) true)
 else
  some (Reader.mk a0.s (IntKind.wrap .i64 (a0.at_ + a1)) (a2 != 0))
theorem F60_ok (n : Nat) (a0 : Reader) (a1 a2 : Int) : ∀ r, F60 n a0 a1 a2 = some r → D 60 [.one (.ptr 1000000 0), .one (li .i64 a1), .one (li .i64 a2)] [.cells (Reader.cells a0)] = some (F60_e r) := by
 refine fn_to (D := D) (n := n + 8) (nt := 25) (rs := pc60_r) (c := p60c3) (L := [(0, qp 1000000 0), (1, qj a1), (2, qj a2)]) (M := (W57 a0)) (k := 1) rfl rfl rfl rfl rfl rfl rfl ?_
 unfold F60
 refine Sim.su 9 [(1000000, some (.cells [ls a0.s, lj (iw .i64 (a0.at_ + a1)), lb a0.fails]))] (.region0 (.rv 6 [] (.sp 19 _ ?_ ?_)))
 ·exact SimI.ru 6 [(1000000, some (.cells [ls a0.s, lj (iw .i64 (a0.at_ + a1)), lb true]))] (.finN (by kernel_rfl))
 ·exact SimI.ru 6 [(1000000, some (.cells [ls a0.s, lj (iw .i64 (a0.at_ + a1)), lb (a2 != 0)]))] (.finN (by kernel_rfl))
def F57_e : (Int × Reader) → PV × List Ob := fun r => (.one (li .i64 r.1), [.cells (Reader.cells r.2)])
def F57 (n : Nat) (a0 : Reader) (a1 : Int) : Option (Int × Reader) :=
 if a0.fails then
  some (0, a0)
 else
  if 0 ≤ (a0.at_ : Int) ∧ (a0.at_ : Int) ≤ (a0.s.size : Int) then
   (F82 n (a0.s.extract a0.at_.toNat a0.s.size)).bind fun (r1 : (Int × Int × Int)) =>
   (F60 n a0 r1.2.1 r1.2.2).bind fun (r2 : Reader) =>
   if decide (a1 < r1.1) then
    some (0, (Reader.mk r2.s r2.at_ true))
   else
    some (IntKind.wrap .i64 r1.1, r2)
  else none
theorem F57_ok (n : Nat) (a0 : Reader) (a1 : Int) : ∀ r, F57 n a0 a1 = some r → D 57 [.one (.ptr 1000000 0), .one (li .u64 a1)] [.cells (Reader.cells a0)] = some (F57_e r) := by
 refine fn_to (D := D) (n := n + 8) (nt := 38) (rs := pc57_r) (c := p57c27) (L := [(0, qp 1000000 0), (1, .one (li .u64 a1))]) (M := (W57 a0)) (k := 1) rfl rfl rfl rfl rfl rfl rfl ?_
 unfold F57
 refine Sim.su 1 [] (.seq (.su 4 [] (.cd _ ?_ ?_)))
 ·exact Sim.su 1 [] (.ret (.thenR .fn))
 ·refine Sim.skip (.thenN (.sv 8 [] (.gp 21 (.slice 9 true false) [16, 20] none [(16, .imm), (20, .imm)] (fun hc => pr_cutL (s := a0.s) (k := .i64) (a := a0.at_) Tryz.underlying9 hc) (.cm 22 false [[]] 82 [21] none [(21, .imm)] (F82_ok _ _) (fun r1 => ?_)))))
  refine SimI.ru 7 [] (.thenN (.sv 3 [] (.bn ⟨some 29, .call true [[], [], []] 60 [26, 27, 28], none, []⟩ (fun r2 => [(29, tz)]) (fun r2 => (W57 r2)) (fun r2 hr => pe (qc (ARGS := [qp 1000000 0, qj r1.2.1, qj r1.2.2]) (ks := [1000000]) (os := [(Reader.cells a0)]) (os' := [(Reader.cells r2)]) (F60_ok _ _ _ _ _ hr))) (fun r2 => ?_))))
  refine SimI.dn (.thenN (.seq (.su 3 [] (.cd _ ?_ ?_))))
  ·exact Sim.su 4 [(1000000, some (.cells [ls r2.s, lj r2.at_, lb true]))] (.su 1 [] (.ret (.thenR .fn)))
  ·exact Sim.skip (.thenN (.su 3 [] (.ret .fn)))
def F102_e : Reader_fields → PV × List Ob := fun r => (.tup [], [.cells (Reader_fields.cells r)])
def F102 (n : Nat) (a0 : Reader_fields) (a1 a2 : Int) : Option Reader_fields :=
 some (Reader_fields.mk a0.s (IntKind.wrap .i64 (a0.at_ + a1)) a2)
theorem F102_ok (n : Nat) (a0 : Reader_fields) (a1 a2 : Int) : ∀ r, F102 n a0 a1 a2 = some r → D 102 [.one (.ptr 1000000 0), .one (li .i64 a1), .one (li .i64 a2)] [.cells (Reader_fields.cells a0)] = some (F102_e r) := by
 refine fn_to (D := D) (n := n + 8) (nt := 18) (rs := pc102_r) (c := p102c3) (L := [(0, qp 1000000 0), (1, qj a1), (2, qj a2)]) (M := (W71 a0)) (k := 1) rfl rfl rfl rfl rfl rfl rfl ?_
 unfold F102
 exact Sim.su 9 [(1000000, some (.cells [ls a0.s, lj (iw .i64 (a0.at_ + a1)), lj a0.e]))] (.region0 (.ru 5 [(1000000, some (.cells [ls a0.s, lj (iw .i64 (a0.at_ + a1)), lj a2]))] (.finN (by kernel_rfl))))
def F100_e : (Int × Reader_fields) → PV × List Ob := fun r => (.one (li .i64 r.1), [.cells (Reader_fields.cells r.2)])
def F100 (n : Nat) (a0 : Reader_fields) : Option (Int × Reader_fields) :=
 if a0.e != 0 then
  some (0, a0)
 else
  if 0 ≤ (a0.at_ : Int) ∧ (a0.at_ : Int) ≤ (a0.s.size : Int) then
   (F82 n (a0.s.extract a0.at_.toNat a0.s.size)).bind fun (r1 : (Int × Int × Int)) =>
   (F102 n a0 r1.2.1 r1.2.2).bind fun (r2 : Reader_fields) =>
   some (IntKind.wrap .i64 (imin r1.1 1000001), r2)
  else none
theorem F100_ok (n : Nat) (a0 : Reader_fields) : ∀ r, F100 n a0 = some r → D 100 [.one (.ptr 1000000 0)] [.cells (Reader_fields.cells a0)] = some (F100_e r) := by
 refine fn_to (D := D) (n := n + 8) (nt := 32) (rs := pc100_r) (c := p100c17) (L := [(0, qp 1000000 0)]) (M := (W71 a0)) (k := 1) rfl rfl rfl rfl rfl rfl rfl ?_
 unfold F100
 refine Sim.su 1 [] (.seq (.su 5 [] (.cd _ ?_ ?_)))
 ·exact Sim.su 1 [] (.ret (.thenR .fn))
 ·refine Sim.skip (.thenN (.sv 8 [] (.gp 20 (.slice 9 true false) [15, 19] none [(15, .imm), (19, .imm)] (fun hc => pr_cutL (s := a0.s) (k := .i64) (a := a0.at_) Tryz.underlying9 hc) (.cm 21 false [[]] 82 [20] none [(20, .imm)] (F82_ok _ _) (fun r1 => ?_)))))
  refine SimI.ru 7 [] (.thenN (.sv 3 [] (.bn ⟨some 28, .call true [[], [], []] 102 [25, 26, 27], none, []⟩ (fun r2 => [(28, tz)]) (fun r2 => (W71 r2)) (fun r2 hr => pe (qc (ARGS := [qp 1000000 0, qj r1.2.1, qj r1.2.2]) (ks := [1000000]) (os := [(Reader_fields.cells a0)]) (os' := [(Reader_fields.cells r2)]) (F102_ok _ _ _ _ _ hr))) (fun r2 => ?_))))
  exact SimI.dn (.thenN (.su 4 [] (.ret .fn)))
def F95_e : Int → PV × List Ob := fun r => (.one (li .i64 r), [])
def F95 (n : Nat) (a0 : Int) : Option Int :=
 some (bitsI .xor .i64 (IntKind.wrap .i64 (shrI .u64 a0 1)) (IntKind.wrap .i64 (0 - (IntKind.wrap .i64 (bitsI .and .u64 a0 1)))))
theorem F95_ok (n : Nat) (a0 : Int) : ∀ r, F95 n a0 = some r → D 95 [.one (li .u64 a0)] [] = some (F95_e r) := by
 refine fn_to (D := D) (n := n + 8) (nt := 11) (rs := pc95_r) (c := p95c5) (L := [(0, .one (li .u64 a0))]) (M := []) (k := 0) rfl rfl rfl rfl rfl rfl rfl ?_
 unfold F95
 exact Sim.su 1 [] (.su 9 [] (.ret .fn))
def F85_e : (Int × Int × Int) → PV × List Ob := fun r => (.tup [.one (li .i64 r.1), .one (li .i64 r.2.1), .one (li .i64 r.2.2)], [])
def F85 (n : Nat) (a0 : ByteArray) : Option (Int × Int × Int) :=
 (F82 n a0).bind fun (r1 : (Int × Int × Int)) =>
 (F95 n r1.1).bind fun (r2 : Int) =>
 some (r2, r1.2.1, r1.2.2)
theorem F85_ok (n : Nat) (a0 : ByteArray) : ∀ r, F85 n a0 = some r → D 85 [.one (ls a0)] [] = some (F85_e r) := by
 refine fn_to (D := D) (n := n + 8) (nt := 18) (rs := pc85_r) (c := p85c7) (L := [(0, qs a0)]) (M := []) (k := 0) rfl rfl rfl rfl rfl rfl rfl ?_
 unfold F85
 refine Sim.su 3 [] (.sv 1 [] (.cl 10 true [[]] 82 [9] none (fun r1 => .tup (W118 r1)) [qs a0] (F82_ok _ _) (fun r1 => ?_)))
 refine SimI.ru 7 [] (.thenN (.sv 1 [] (.cl 15 true [[]] 95 [14] none (fun r2 => qj r2) [.one (li .u64 r1.1)] (F95_ok _ _) (fun r2 => ?_))))
 exact SimI.ru 5 [] (.thenN (.ret .fn))
def F101_e : (Field × Reader_fields) → PV × List Ob := fun r => (.agg [li .i64 r.1.N, ls r.1.Text], [.cells (Reader_fields.cells r.2)])
def F101 (n : Nat) (a0 : Reader_fields) : Option (Field × Reader_fields) :=
 if a0.e != 0 then
  some ((Field.mk 0 ByteArray.empty), a0)
 else
  if 0 ≤ (a0.at_ : Int) ∧ (a0.at_ : Int) ≤ (a0.s.size : Int) then
   (F56 n (a0.s.extract a0.at_.toNat a0.s.size) 12).bind fun (r1 : (ByteArray × Int × Int)) =>
   (F102 n a0 r1.2.1 r1.2.2).bind fun (r2 : Reader_fields) =>
   if r1.1.toList == ByteArray.empty.toList then
    if r1.2.2 == 0 then
     if 0 ≤ (r2.at_ : Int) ∧ (r2.at_ : Int) ≤ (r2.s.size : Int) then
      (F85 n (r2.s.extract r2.at_.toNat r2.s.size)).bind fun (r3 : (Int × Int × Int)) =>
      (F102 n r2 r3.2.1 r3.2.2).bind fun (r4 : Reader_fields) =>
      some ((Field.mk r3.1 r1.1), r4)
     else none
    else
     some ((Field.mk 0 r1.1), r2)
   else
    some ((Field.mk 0 r1.1), r2)
  else none
theorem F101_ok (n : Nat) (a0 : Reader_fields) : ∀ r, F101 n a0 = some r → D 101 [.one (.ptr 1000000 0)] [.cells (Reader_fields.cells a0)] = some (F101_e r) := by
 refine fn_to (D := D) (n := n + 8) (nt := 63) (rs := pc101_r) (c := p101c31) (L := [(0, qp 1000000 0)]) (M := (W71 a0)) (k := 1) rfl rfl rfl rfl rfl rfl rfl ?_
 unfold F101
 refine Sim.su 1 [(2, some (.cells [lj 0, ls be]))] (.su 1 [(3, some (.cells [lj 0, ls be]))] (.seq (.su 5 [] (.cd _ ?_ ?_))))
 ·exact Sim.su 2 [(2, some (.cells [lj 0, ls be]))] (.ret (.thenR .fn))
 ·refine Sim.skip (.thenN (.sv 8 [] (.gp 25 (.slice 9 true false) [20, 24] none [(20, .imm), (24, .imm)] (fun hc => pr_cutL (s := a0.s) (k := .i64) (a := a0.at_) Tryz.underlying9 hc) (.cm 26 false [[], []] 56 [25, kk 12] none [(25, .imm)] (F56_ok _ _ _) (fun r1 => ?_)))))
  refine SimI.ru 7 [] (.thenN (.sv 3 [] (.bn ⟨some 33, .call true [[], [], []] 102 [30, 31, 32], none, []⟩ (fun r2 => [(33, tz)]) (fun r2 => (W71 r2)) (fun r2 hr => pe (qc (ARGS := [qp 1000000 0, qj r1.2.1, qj r1.2.2]) (ks := [1000000]) (os := [(Reader_fields.cells a0)]) (os' := [(Reader_fields.cells r2)]) (F102_ok _ _ _ _ _ hr))) (fun r2 => ?_))))
  refine SimI.dn (.thenN (.seq (.su 3 [(3, some (.cells [lj 0, ls r1.1]))] (.sv 3 [] (.sp 38 _ ?_ ?_)))))
  ·refine SimI.ru 3 [] (.thenN (.cd _ ?_ ?_))
   ·refine Sim.sv 8 [] (.gp 51 (.slice 9 true false) [46, 50] none [(46, .imm), (50, .imm)] (fun hc => pr_cutL (s := r2.s) (k := .i64) (a := r2.at_) Tryz.underlying9 hc) (.cm 52 false [[]] 85 [51] none [(51, .imm)] (F85_ok _ _) (fun r3 => ?_)))
    refine SimI.ru 7 [] (.thenN (.sv 3 [] (.bn ⟨some 59, .call true [[], [], []] 102 [56, 57, 58], none, []⟩ (fun r4 => [(59, tz)]) (fun r4 => (W71 r4)) (fun r4 hr => pe (qc (ARGS := [qp 1000000 0, qj r3.2.1, qj r3.2.2]) (ks := [1000000]) (os := [(Reader_fields.cells r2)]) (os' := [(Reader_fields.cells r4)]) (F102_ok _ _ _ _ _ hr))) (fun r4 => ?_))))
    exact SimI.dn (.thenN (.region0 (.ru 3 [(3, some (.cells [lj r3.1, ls r1.1]))] (.thenN (.su 2 [(2, some (.cells [lj r3.1, ls r1.1]))] (.ret .fn))))))
   ·exact Sim.skip (.thenN (.su 2 [(2, some (.cells [lj 0, ls r1.1]))] (.ret .fn)))
  ·exact SimI.ru 3 [] (.thenN (.cf (.skip (.thenN (.su 2 [(2, some (.cells [lj 0, ls r1.1]))] (.ret .fn))))))
def F98_e : (Delta × Int × Int) → PV × List Ob := fun r => (.tup [.agg (Delta.cells r.1), .one (li .i64 r.2.1), .one (li .i64 r.2.2)], [])
def F98_j39 (n : Nat) (r1 r2 r4 r5 : (Int × Reader_fields)) (g30 : Reader_fields) (i31 : Int) (s32 : ByteArray) (i33 : Int) (s34 : ByteArray) (i35 : Int) (s36 : ByteArray) (i37 : Int) (s38 : ByteArray) : Option (Delta × Int × Int) :=
  if g30.e != 0 then
   some ((Delta.mk 0 0 (Point.mk 0 0) (A4.mk (Field.mk 0 ByteArray.empty) (Field.mk 0 ByteArray.empty) (Field.mk 0 ByteArray.empty) (Field.mk 0 ByteArray.empty))), 0, g30.e)
  else
   (F92 n (Delta.mk r1.1 (IntKind.wrap .u8 r2.1) (Point.mk r4.1 r5.1) (A4.mk (Field.mk i31 s32) (Field.mk i33 s34) (Field.mk i35 s36) (Field.mk i37 s38)))).bind fun (r40 : Bool) =>
   if !(r40) then
    some ((Delta.mk 0 0 (Point.mk 0 0) (A4.mk (Field.mk 0 ByteArray.empty) (Field.mk 0 ByteArray.empty) (Field.mk 0 ByteArray.empty) (Field.mk 0 ByteArray.empty))), 0, 11)
   else
    some ((Delta.mk r1.1 (IntKind.wrap .u8 r2.1) (Point.mk r4.1 r5.1) (A4.mk (Field.mk i31 s32) (Field.mk i33 s34) (Field.mk i35 s36) (Field.mk i37 s38))), g30.at_, 0)
theorem F98_j39_ok (n : Nat) (r1 r2 r4 r5 : (Int × Reader_fields)) (g30 : Reader_fields) (i31 : Int) (s32 : ByteArray) (i33 : Int) (s34 : ByteArray) (i35 : Int) (s36 : ByteArray) (i37 : Int) (s38 : ByteArray) : Sim Tryz.prog D (n + 8) p98c65 W21 [(2, some (.cells W1)), (6, some (.cells [lj r1.1, li .u8 (IntKind.wrap .u8 r2.1), lj r4.1, lj r5.1, lj i31, ls s32, lj i33, ls s34, lj i35, ls s36, lj i37, ls s38])), (11, some (.cells (Reader_fields.cells g30)))] (F98_j39 n r1 r2 r4 r5 g30 i31 s32 i33 s34 i35 s36 i37 s38) (QF false pc98_r 0 F98_e) := by
  unfold F98_j39
  refine Sim.seq (.seq (.rg W21 [(2, some (.cells W1)), (6, some (.cells [lj r1.1, li .u8 (iw .u8 r2.1), lj r4.1, lj r5.1, lj i31, ls s32, lj i33, ls s34, lj i35, ls s36, lj i37, ls s38])), (11, some (.cells (Reader_fields.cells g30)))] (.ru 5 [] (.thenN (.cd _ ?_ ?_)))))
  ·exact Sim.su 8 [(2, some (.cells W1))] (.ret (.thenR .fn))
  ·refine Sim.skip (.thenN (.seq (.sv 1 [] (.cl 82 true [[]] 92 [81] none (fun r40 => qb r40) [.agg [lj r1.1, li .u8 (iw .u8 r2.1), lj r4.1, lj r5.1, lj i31, ls s32, lj i33, ls s34, lj i35, ls s36, lj i37, ls s38]] (F92_ok _ _) (fun r40 => ?_)))))
   refine SimI.ru 1 [] (.thenN (.cd _ ?_ ?_))
   ·exact Sim.su 4 [(2, some (.cells W1))] (.ret (.thenR .fn))
   ·exact Sim.skip (.thenN (.su 8 [(2, some (.cells [lj r1.1, li .u8 (iw .u8 r2.1), lj r4.1, lj r5.1, lj i31, ls s32, lj i33, ls s34, lj i35, ls s36, lj i37, ls s38]))] (.ret .fn)))
def F98_u29 (n : Nat) (r1 r2 r4 r5 : (Int × Reader_fields)) (i9 : Int) (s10 : ByteArray) (i15 : Int) (s16 : ByteArray) (i21 : Int) (s22 : ByteArray) (g26 : Reader_fields) (i27 : Int) (s28 : ByteArray) : Option (Delta × Int × Int) :=
  F98_j39 n r1 r2 r4 r5 g26 i9 s10 i15 s16 i21 s22 i27 s28
theorem F98_u29_ok (n : Nat) (r1 r2 r4 r5 : (Int × Reader_fields)) (i9 : Int) (s10 : ByteArray) (i15 : Int) (s16 : ByteArray) (i21 : Int) (s22 : ByteArray) (g26 : Reader_fields) (i27 : Int) (s28 : ByteArray) : SimL Tryz.prog D (n + 8) (n + 4) p98c43 W35 [(2, some (.cells W1)), (6, some (.cells [lj r1.1, li .u8 (IntKind.wrap .u8 r2.1), lj r4.1, lj r5.1, lj i9, ls s10, lj i15, ls s16, lj i21, ls s22, lj i27, ls s28])), (11, some (.cells (Reader_fields.cells g26)))] (F98_u29 n r1 r2 r4 r5 i9 s10 i15 s16 i21 s22 g26 i27 s28) (QB 0 (QT Tryz.prog D (n + 8) p98c65 (QF false pc98_r 0 F98_e))) := by
  unfold F98_u29
  refine SimL.succ (.seq (.rg W35 [(2, some (.cells W1)), (6, some (.cells [lj r1.1, li .u8 (iw .u8 r2.1), lj r4.1, lj r5.1, lj i9, ls s10, lj i15, ls s16, lj i21, ls s22, lj i27, ls s28])), (11, some (.cells (Reader_fields.cells g26)))] (.ru 1 [] (.thenN (.seq (.cf (.exit (.thenX (.loopX (.blockX (.thenN (.pr [2, 5, 6] [2, 6, 11] [] W21 [(2, some (.cells W1)), (6, some (.cells [lj r1.1, li .u8 (iw .u8 r2.1), lj r4.1, lj r5.1, lj i9, ls s10, lj i15, ls s16, lj i21, ls s22, lj i27, ls s28])), (11, some (.cells (Reader_fields.cells g26)))] ?_))))))))))))
  exact F98_j39_ok n r1 r2 r4 r5 g26 i9 s10 i15 s16 i21 s22 i27 s28
def F98_u23 (n : Nat) (r1 r2 r4 r5 : (Int × Reader_fields)) (i9 : Int) (s10 : ByteArray) (i15 : Int) (s16 : ByteArray) (g20 : Reader_fields) (i21 : Int) (s22 : ByteArray) : Option (Delta × Int × Int) :=
  if g20.e != 0 then
   F98_j39 n r1 r2 r4 r5 g20 i9 s10 i15 s16 i21 s22 0 ByteArray.empty
  else
   (F93 n (IntKind.wrap .u8 r2.1) 3).bind fun (r24 : Bool) =>
   if r24 then
    (F101 n g20).bind fun (r25 : (Field × Reader_fields)) =>
    F98_u29 n r1 r2 r4 r5 i9 s10 i15 s16 i21 s22 r25.2 r25.1.N r25.1.Text
   else
    F98_u29 n r1 r2 r4 r5 i9 s10 i15 s16 i21 s22 g20 0 ByteArray.empty
theorem F98_u23_ok (n : Nat) (r1 r2 r4 r5 : (Int × Reader_fields)) (i9 : Int) (s10 : ByteArray) (i15 : Int) (s16 : ByteArray) (g20 : Reader_fields) (i21 : Int) (s22 : ByteArray) : SimL Tryz.prog D (n + 8) (n + 5) p98c43 W36 [(2, some (.cells W1)), (6, some (.cells [lj r1.1, li .u8 (IntKind.wrap .u8 r2.1), lj r4.1, lj r5.1, lj i9, ls s10, lj i15, ls s16, lj i21, ls s22, lj 0, ls be])), (11, some (.cells (Reader_fields.cells g20)))] (F98_u23 n r1 r2 r4 r5 i9 s10 i15 s16 g20 i21 s22) (QB 0 (QT Tryz.prog D (n + 8) p98c65 (QF false pc98_r 0 F98_e))) := by
  unfold F98_u23
  refine SimL.succ (.seq (.rg W36 [(2, some (.cells W1)), (6, some (.cells [lj r1.1, li .u8 (iw .u8 r2.1), lj r4.1, lj r5.1, lj i9, ls s10, lj i15, ls s16, lj i21, ls s22, lj 0, ls be])), (11, some (.cells (Reader_fields.cells g20)))] (.ru 1 [] (.thenN (.seq (.ct (.skip (.thenN (.seq (.block (.su 2 [] (.block (.su 6 [] (.cd _ ?_ ?_))))))))))))))
  ·refine Sim.exit (.blockY rfl (.blockY rfl (.thenX (.loopX (.blockX (.thenN (.pr [2, 5, 6] [2, 6, 11] [] W21 [(2, some (.cells W1)), (6, some (.cells [lj r1.1, li .u8 (iw .u8 r2.1), lj r4.1, lj r5.1, lj i9, ls s10, lj i15, ls s16, lj i21, ls s22, lj 0, ls be])), (11, some (.cells (Reader_fields.cells g20)))] ?_)))))))
   exact F98_j39_ok n r1 r2 r4 r5 g20 i9 s10 i15 s16 i21 s22 0 be
  ·refine Sim.sv 3 [] (.cl 64 true [[], []] 93 [62, 63] none (fun r24 => qb r24) [.one (li .u8 (iw .u8 r2.1)), qj 3] (F93_ok _ _ _) (fun r24 => ?_))
   refine SimI.ru 1 [] (.thenN (.cd _ ?_ ?_))
   ·refine Sim.region0 (.rv 2 [] (.bn ⟨some 67, .call true [[]] 101 [66], none, []⟩ (fun r25 => (W77 r25)) (fun r25 => (W54 r25)) (fun r25 hr => pe (qc (ARGS := [qp 11 0]) (ks := [11]) (os := [(Reader_fields.cells g20)]) (os' := [(Reader_fields.cells r25.2)]) (F101_ok _ _ _ hr))) (fun r25 => ?_)))
    refine SimI.ru 3 [(6, some (.cells [lj r1.1, li .u8 (iw .u8 r2.1), lj r4.1, lj r5.1, lj i9, ls s10, lj i15, ls s16, lj i21, ls s22, lj r25.1.N, ls r25.1.Text]))] (.blockN (.blockN (.thenN (.region0 (.ru 2 [] (.loopN (.pr [2, 5, 6, 51] [2, 6, 11] [] W35 [(2, some (.cells W1)), (6, some (.cells [lj r1.1, li .u8 (iw .u8 r2.1), lj r4.1, lj r5.1, lj i9, ls s10, lj i15, ls s16, lj i21, ls s22, lj r25.1.N, ls r25.1.Text])), (11, some (.cells (Reader_fields.cells r25.2)))] ?_)))))))
    exact F98_u29_ok n r1 r2 r4 r5 i9 s10 i15 s16 i21 s22 r25.2 r25.1.N r25.1.Text
   ·refine Sim.skip (.blockN (.blockN (.thenN (.region0 (.ru 2 [] (.loopN (.pr [2, 5, 6, 51] [2, 6, 11] [] W35 [(2, some (.cells W1)), (6, some (.cells [lj r1.1, li .u8 (iw .u8 r2.1), lj r4.1, lj r5.1, lj i9, ls s10, lj i15, ls s16, lj i21, ls s22, lj 0, ls be])), (11, some (.cells (Reader_fields.cells g20)))] ?_)))))))
    exact F98_u29_ok n r1 r2 r4 r5 i9 s10 i15 s16 i21 s22 g20 0 be
def F98_u17 (n : Nat) (r1 r2 r4 r5 : (Int × Reader_fields)) (i9 : Int) (s10 : ByteArray) (g14 : Reader_fields) (i15 : Int) (s16 : ByteArray) : Option (Delta × Int × Int) :=
  if g14.e != 0 then
   F98_j39 n r1 r2 r4 r5 g14 i9 s10 i15 s16 0 ByteArray.empty 0 ByteArray.empty
  else
   (F93 n (IntKind.wrap .u8 r2.1) 2).bind fun (r18 : Bool) =>
   if r18 then
    (F101 n g14).bind fun (r19 : (Field × Reader_fields)) =>
    F98_u23 n r1 r2 r4 r5 i9 s10 i15 s16 r19.2 r19.1.N r19.1.Text
   else
    F98_u23 n r1 r2 r4 r5 i9 s10 i15 s16 g14 0 ByteArray.empty
theorem F98_u17_ok (n : Nat) (r1 r2 r4 r5 : (Int × Reader_fields)) (i9 : Int) (s10 : ByteArray) (g14 : Reader_fields) (i15 : Int) (s16 : ByteArray) : SimL Tryz.prog D (n + 8) (n + 6) p98c43 W37 [(2, some (.cells W1)), (6, some (.cells [lj r1.1, li .u8 (IntKind.wrap .u8 r2.1), lj r4.1, lj r5.1, lj i9, ls s10, lj i15, ls s16, lj 0, ls be, lj 0, ls be])), (11, some (.cells (Reader_fields.cells g14)))] (F98_u17 n r1 r2 r4 r5 i9 s10 g14 i15 s16) (QB 0 (QT Tryz.prog D (n + 8) p98c65 (QF false pc98_r 0 F98_e))) := by
  unfold F98_u17
  refine SimL.succ (.seq (.rg W37 [(2, some (.cells W1)), (6, some (.cells [lj r1.1, li .u8 (iw .u8 r2.1), lj r4.1, lj r5.1, lj i9, ls s10, lj i15, ls s16, lj 0, ls be, lj 0, ls be])), (11, some (.cells (Reader_fields.cells g14)))] (.ru 1 [] (.thenN (.seq (.ct (.skip (.thenN (.seq (.block (.su 2 [] (.block (.su 6 [] (.cd _ ?_ ?_))))))))))))))
  ·refine Sim.exit (.blockY rfl (.blockY rfl (.thenX (.loopX (.blockX (.thenN (.pr [2, 5, 6] [2, 6, 11] [] W21 [(2, some (.cells W1)), (6, some (.cells [lj r1.1, li .u8 (iw .u8 r2.1), lj r4.1, lj r5.1, lj i9, ls s10, lj i15, ls s16, lj 0, ls be, lj 0, ls be])), (11, some (.cells (Reader_fields.cells g14)))] ?_)))))))
   exact F98_j39_ok n r1 r2 r4 r5 g14 i9 s10 i15 s16 0 be 0 be
  ·refine Sim.sv 3 [] (.cl 64 true [[], []] 93 [62, 63] none (fun r18 => qb r18) [.one (li .u8 (iw .u8 r2.1)), qj 2] (F93_ok _ _ _) (fun r18 => ?_))
   refine SimI.ru 1 [] (.thenN (.cd _ ?_ ?_))
   ·refine Sim.region0 (.rv 2 [] (.bn ⟨some 67, .call true [[]] 101 [66], none, []⟩ (fun r19 => (W77 r19)) (fun r19 => (W54 r19)) (fun r19 hr => pe (qc (ARGS := [qp 11 0]) (ks := [11]) (os := [(Reader_fields.cells g14)]) (os' := [(Reader_fields.cells r19.2)]) (F101_ok _ _ _ hr))) (fun r19 => ?_)))
    refine SimI.ru 3 [(6, some (.cells [lj r1.1, li .u8 (iw .u8 r2.1), lj r4.1, lj r5.1, lj i9, ls s10, lj i15, ls s16, lj r19.1.N, ls r19.1.Text, lj 0, ls be]))] (.blockN (.blockN (.thenN (.region0 (.ru 2 [] (.loopN (.pr [2, 5, 6, 51] [2, 6, 11] [] W36 [(2, some (.cells W1)), (6, some (.cells [lj r1.1, li .u8 (iw .u8 r2.1), lj r4.1, lj r5.1, lj i9, ls s10, lj i15, ls s16, lj r19.1.N, ls r19.1.Text, lj 0, ls be])), (11, some (.cells (Reader_fields.cells r19.2)))] ?_)))))))
    exact F98_u23_ok n r1 r2 r4 r5 i9 s10 i15 s16 r19.2 r19.1.N r19.1.Text
   ·refine Sim.skip (.blockN (.blockN (.thenN (.region0 (.ru 2 [] (.loopN (.pr [2, 5, 6, 51] [2, 6, 11] [] W36 [(2, some (.cells W1)), (6, some (.cells [lj r1.1, li .u8 (iw .u8 r2.1), lj r4.1, lj r5.1, lj i9, ls s10, lj i15, ls s16, lj 0, ls be, lj 0, ls be])), (11, some (.cells (Reader_fields.cells g14)))] ?_)))))))
    exact F98_u23_ok n r1 r2 r4 r5 i9 s10 i15 s16 g14 0 be
def F98_u11 (n : Nat) (r1 r2 r4 r5 : (Int × Reader_fields)) (g8 : Reader_fields) (i9 : Int) (s10 : ByteArray) : Option (Delta × Int × Int) :=
  if g8.e != 0 then
   F98_j39 n r1 r2 r4 r5 g8 i9 s10 0 ByteArray.empty 0 ByteArray.empty 0 ByteArray.empty
  else
   (F93 n (IntKind.wrap .u8 r2.1) 1).bind fun (r12 : Bool) =>
   if r12 then
    (F101 n g8).bind fun (r13 : (Field × Reader_fields)) =>
    F98_u17 n r1 r2 r4 r5 i9 s10 r13.2 r13.1.N r13.1.Text
   else
    F98_u17 n r1 r2 r4 r5 i9 s10 g8 0 ByteArray.empty
theorem F98_u11_ok (n : Nat) (r1 r2 r4 r5 : (Int × Reader_fields)) (g8 : Reader_fields) (i9 : Int) (s10 : ByteArray) : SimL Tryz.prog D (n + 8) (n + 7) p98c43 W38 [(2, some (.cells W1)), (6, some (.cells [lj r1.1, li .u8 (IntKind.wrap .u8 r2.1), lj r4.1, lj r5.1, lj i9, ls s10, lj 0, ls be, lj 0, ls be, lj 0, ls be])), (11, some (.cells (Reader_fields.cells g8)))] (F98_u11 n r1 r2 r4 r5 g8 i9 s10) (QB 0 (QT Tryz.prog D (n + 8) p98c65 (QF false pc98_r 0 F98_e))) := by
  unfold F98_u11
  refine SimL.succ (.seq (.rg W38 (W101 r1 r2 r4 r5 i9 s10 g8) (.ru 1 [] (.thenN (.seq (.ct (.skip (.thenN (.seq (.block (.su 2 [] (.block (.su 6 [] (.cd _ ?_ ?_))))))))))))))
  ·refine Sim.exit (.blockY rfl (.blockY rfl (.thenX (.loopX (.blockX (.thenN (.pr [2, 5, 6] [2, 6, 11] [] W21 (W101 r1 r2 r4 r5 i9 s10 g8) ?_)))))))
   exact F98_j39_ok n r1 r2 r4 r5 g8 i9 s10 0 be 0 be 0 be
  ·refine Sim.sv 3 [] (.cl 64 true [[], []] 93 [62, 63] none (fun r12 => qb r12) [.one (li .u8 (iw .u8 r2.1)), qj 1] (F93_ok _ _ _) (fun r12 => ?_))
   refine SimI.ru 1 [] (.thenN (.cd _ ?_ ?_))
   ·refine Sim.region0 (.rv 2 [] (.bn ⟨some 67, .call true [[]] 101 [66], none, []⟩ (fun r13 => (W77 r13)) (fun r13 => (W54 r13)) (fun r13 hr => pe (qc (ARGS := [qp 11 0]) (ks := [11]) (os := [(Reader_fields.cells g8)]) (os' := [(Reader_fields.cells r13.2)]) (F101_ok _ _ _ hr))) (fun r13 => ?_)))
    refine SimI.ru 3 [(6, some (.cells [lj r1.1, li .u8 (iw .u8 r2.1), lj r4.1, lj r5.1, lj i9, ls s10, lj r13.1.N, ls r13.1.Text, lj 0, ls be, lj 0, ls be]))] (.blockN (.blockN (.thenN (.region0 (.ru 2 [] (.loopN (.pr [2, 5, 6, 51] [2, 6, 11] [] W37 [(2, some (.cells W1)), (6, some (.cells [lj r1.1, li .u8 (iw .u8 r2.1), lj r4.1, lj r5.1, lj i9, ls s10, lj r13.1.N, ls r13.1.Text, lj 0, ls be, lj 0, ls be])), (11, some (.cells (Reader_fields.cells r13.2)))] ?_)))))))
    exact F98_u17_ok n r1 r2 r4 r5 i9 s10 r13.2 r13.1.N r13.1.Text
   ·refine Sim.skip (.blockN (.blockN (.thenN (.region0 (.ru 2 [] (.loopN (.pr [2, 5, 6, 51] [2, 6, 11] [] W37 (W101 r1 r2 r4 r5 i9 s10 g8) ?_)))))))
    exact F98_u17_ok n r1 r2 r4 r5 i9 s10 g8 0 be
def F98_j74 (n : Nat) (r1 r2 : (Int × Reader_fields)) (g65 : Reader_fields) (i66 : Int) (s67 : ByteArray) (i68 : Int) (s69 : ByteArray) (i70 : Int) (s71 : ByteArray) (i72 : Int) (s73 : ByteArray) : Option (Delta × Int × Int) :=
  if g65.e != 0 then
   some ((Delta.mk 0 0 (Point.mk 0 0) (A4.mk (Field.mk 0 ByteArray.empty) (Field.mk 0 ByteArray.empty) (Field.mk 0 ByteArray.empty) (Field.mk 0 ByteArray.empty))), 0, g65.e)
  else
   (F92 n (Delta.mk r1.1 (IntKind.wrap .u8 r2.1) (Point.mk 0 0) (A4.mk (Field.mk i66 s67) (Field.mk i68 s69) (Field.mk i70 s71) (Field.mk i72 s73)))).bind fun (r75 : Bool) =>
   if !(r75) then
    some ((Delta.mk 0 0 (Point.mk 0 0) (A4.mk (Field.mk 0 ByteArray.empty) (Field.mk 0 ByteArray.empty) (Field.mk 0 ByteArray.empty) (Field.mk 0 ByteArray.empty))), 0, 11)
   else
    some ((Delta.mk r1.1 (IntKind.wrap .u8 r2.1) (Point.mk 0 0) (A4.mk (Field.mk i66 s67) (Field.mk i68 s69) (Field.mk i70 s71) (Field.mk i72 s73))), g65.at_, 0)
theorem F98_j74_ok (n : Nat) (r1 r2 : (Int × Reader_fields)) (g65 : Reader_fields) (i66 : Int) (s67 : ByteArray) (i68 : Int) (s69 : ByteArray) (i70 : Int) (s71 : ByteArray) (i72 : Int) (s73 : ByteArray) : Sim Tryz.prog D (n + 8) p98c65 W21 [(2, some (.cells W1)), (6, some (.cells [lj r1.1, li .u8 (IntKind.wrap .u8 r2.1), lj 0, lj 0, lj i66, ls s67, lj i68, ls s69, lj i70, ls s71, lj i72, ls s73])), (11, some (.cells (Reader_fields.cells g65)))] (F98_j74 n r1 r2 g65 i66 s67 i68 s69 i70 s71 i72 s73) (QF false pc98_r 0 F98_e) := by
  unfold F98_j74
  refine Sim.seq (.seq (.rg W21 [(2, some (.cells W1)), (6, some (.cells [lj r1.1, li .u8 (iw .u8 r2.1), lj 0, lj 0, lj i66, ls s67, lj i68, ls s69, lj i70, ls s71, lj i72, ls s73])), (11, some (.cells (Reader_fields.cells g65)))] (.ru 5 [] (.thenN (.cd _ ?_ ?_)))))
  ·exact Sim.su 8 [(2, some (.cells W1))] (.ret (.thenR .fn))
  ·refine Sim.skip (.thenN (.seq (.sv 1 [] (.cl 82 true [[]] 92 [81] none (fun r75 => qb r75) [.agg [lj r1.1, li .u8 (iw .u8 r2.1), lj 0, lj 0, lj i66, ls s67, lj i68, ls s69, lj i70, ls s71, lj i72, ls s73]] (F92_ok _ _) (fun r75 => ?_)))))
   refine SimI.ru 1 [] (.thenN (.cd _ ?_ ?_))
   ·exact Sim.su 4 [(2, some (.cells W1))] (.ret (.thenR .fn))
   ·exact Sim.skip (.thenN (.su 8 [(2, some (.cells [lj r1.1, li .u8 (iw .u8 r2.1), lj 0, lj 0, lj i66, ls s67, lj i68, ls s69, lj i70, ls s71, lj i72, ls s73]))] (.ret .fn)))
def F98_u64 (n : Nat) (r1 r2 : (Int × Reader_fields)) (i44 : Int) (s45 : ByteArray) (i50 : Int) (s51 : ByteArray) (i56 : Int) (s57 : ByteArray) (g61 : Reader_fields) (i62 : Int) (s63 : ByteArray) : Option (Delta × Int × Int) :=
  F98_j74 n r1 r2 g61 i44 s45 i50 s51 i56 s57 i62 s63
theorem F98_u64_ok (n : Nat) (r1 r2 : (Int × Reader_fields)) (i44 : Int) (s45 : ByteArray) (i50 : Int) (s51 : ByteArray) (i56 : Int) (s57 : ByteArray) (g61 : Reader_fields) (i62 : Int) (s63 : ByteArray) : SimL Tryz.prog D (n + 8) (n + 4) p98c43 W35 [(2, some (.cells W1)), (6, some (.cells [lj r1.1, li .u8 (IntKind.wrap .u8 r2.1), lj 0, lj 0, lj i44, ls s45, lj i50, ls s51, lj i56, ls s57, lj i62, ls s63])), (11, some (.cells (Reader_fields.cells g61)))] (F98_u64 n r1 r2 i44 s45 i50 s51 i56 s57 g61 i62 s63) (QB 0 (QT Tryz.prog D (n + 8) p98c65 (QF false pc98_r 0 F98_e))) := by
  unfold F98_u64
  refine SimL.succ (.seq (.rg W35 [(2, some (.cells W1)), (6, some (.cells [lj r1.1, li .u8 (iw .u8 r2.1), lj 0, lj 0, lj i44, ls s45, lj i50, ls s51, lj i56, ls s57, lj i62, ls s63])), (11, some (.cells (Reader_fields.cells g61)))] (.ru 1 [] (.thenN (.seq (.cf (.exit (.thenX (.loopX (.blockX (.thenN (.pr [2, 5, 6] [2, 6, 11] [] W21 [(2, some (.cells W1)), (6, some (.cells [lj r1.1, li .u8 (iw .u8 r2.1), lj 0, lj 0, lj i44, ls s45, lj i50, ls s51, lj i56, ls s57, lj i62, ls s63])), (11, some (.cells (Reader_fields.cells g61)))] ?_))))))))))))
  exact F98_j74_ok n r1 r2 g61 i44 s45 i50 s51 i56 s57 i62 s63
def F98_u58 (n : Nat) (r1 r2 : (Int × Reader_fields)) (i44 : Int) (s45 : ByteArray) (i50 : Int) (s51 : ByteArray) (g55 : Reader_fields) (i56 : Int) (s57 : ByteArray) : Option (Delta × Int × Int) :=
  if g55.e != 0 then
   F98_j74 n r1 r2 g55 i44 s45 i50 s51 i56 s57 0 ByteArray.empty
  else
   (F93 n (IntKind.wrap .u8 r2.1) 3).bind fun (r59 : Bool) =>
   if r59 then
    (F101 n g55).bind fun (r60 : (Field × Reader_fields)) =>
    F98_u64 n r1 r2 i44 s45 i50 s51 i56 s57 r60.2 r60.1.N r60.1.Text
   else
    F98_u64 n r1 r2 i44 s45 i50 s51 i56 s57 g55 0 ByteArray.empty
theorem F98_u58_ok (n : Nat) (r1 r2 : (Int × Reader_fields)) (i44 : Int) (s45 : ByteArray) (i50 : Int) (s51 : ByteArray) (g55 : Reader_fields) (i56 : Int) (s57 : ByteArray) : SimL Tryz.prog D (n + 8) (n + 5) p98c43 W36 [(2, some (.cells W1)), (6, some (.cells [lj r1.1, li .u8 (IntKind.wrap .u8 r2.1), lj 0, lj 0, lj i44, ls s45, lj i50, ls s51, lj i56, ls s57, lj 0, ls be])), (11, some (.cells (Reader_fields.cells g55)))] (F98_u58 n r1 r2 i44 s45 i50 s51 g55 i56 s57) (QB 0 (QT Tryz.prog D (n + 8) p98c65 (QF false pc98_r 0 F98_e))) := by
  unfold F98_u58
  refine SimL.succ (.seq (.rg W36 (W112 r1 r2 i44 s45 i50 s51 i56 s57 g55) (.ru 1 [] (.thenN (.seq (.ct (.skip (.thenN (.seq (.block (.su 2 [] (.block (.su 6 [] (.cd _ ?_ ?_))))))))))))))
  ·refine Sim.exit (.blockY rfl (.blockY rfl (.thenX (.loopX (.blockX (.thenN (.pr [2, 5, 6] [2, 6, 11] [] W21 (W112 r1 r2 i44 s45 i50 s51 i56 s57 g55) ?_)))))))
   exact F98_j74_ok n r1 r2 g55 i44 s45 i50 s51 i56 s57 0 be
  ·refine Sim.sv 3 [] (.cl 64 true [[], []] 93 [62, 63] none (fun r59 => qb r59) [.one (li .u8 (iw .u8 r2.1)), qj 3] (F93_ok _ _ _) (fun r59 => ?_))
   refine SimI.ru 1 [] (.thenN (.cd _ ?_ ?_))
   ·refine Sim.region0 (.rv 2 [] (.bn ⟨some 67, .call true [[]] 101 [66], none, []⟩ (fun r60 => (W77 r60)) (fun r60 => (W54 r60)) (fun r60 hr => pe (qc (ARGS := [qp 11 0]) (ks := [11]) (os := [(Reader_fields.cells g55)]) (os' := [(Reader_fields.cells r60.2)]) (F101_ok _ _ _ hr))) (fun r60 => ?_)))
    refine SimI.ru 3 [(6, some (.cells [lj r1.1, li .u8 (iw .u8 r2.1), lj 0, lj 0, lj i44, ls s45, lj i50, ls s51, lj i56, ls s57, lj r60.1.N, ls r60.1.Text]))] (.blockN (.blockN (.thenN (.region0 (.ru 2 [] (.loopN (.pr [2, 5, 6, 51] [2, 6, 11] [] W35 [(2, some (.cells W1)), (6, some (.cells [lj r1.1, li .u8 (iw .u8 r2.1), lj 0, lj 0, lj i44, ls s45, lj i50, ls s51, lj i56, ls s57, lj r60.1.N, ls r60.1.Text])), (11, some (.cells (Reader_fields.cells r60.2)))] ?_)))))))
    exact F98_u64_ok n r1 r2 i44 s45 i50 s51 i56 s57 r60.2 r60.1.N r60.1.Text
   ·refine Sim.skip (.blockN (.blockN (.thenN (.region0 (.ru 2 [] (.loopN (.pr [2, 5, 6, 51] [2, 6, 11] [] W35 (W112 r1 r2 i44 s45 i50 s51 i56 s57 g55) ?_)))))))
    exact F98_u64_ok n r1 r2 i44 s45 i50 s51 i56 s57 g55 0 be
def F98_u52 (n : Nat) (r1 r2 : (Int × Reader_fields)) (i44 : Int) (s45 : ByteArray) (g49 : Reader_fields) (i50 : Int) (s51 : ByteArray) : Option (Delta × Int × Int) :=
  if g49.e != 0 then
   F98_j74 n r1 r2 g49 i44 s45 i50 s51 0 ByteArray.empty 0 ByteArray.empty
  else
   (F93 n (IntKind.wrap .u8 r2.1) 2).bind fun (r53 : Bool) =>
   if r53 then
    (F101 n g49).bind fun (r54 : (Field × Reader_fields)) =>
    F98_u58 n r1 r2 i44 s45 i50 s51 r54.2 r54.1.N r54.1.Text
   else
    F98_u58 n r1 r2 i44 s45 i50 s51 g49 0 ByteArray.empty
theorem F98_u52_ok (n : Nat) (r1 r2 : (Int × Reader_fields)) (i44 : Int) (s45 : ByteArray) (g49 : Reader_fields) (i50 : Int) (s51 : ByteArray) : SimL Tryz.prog D (n + 8) (n + 6) p98c43 W37 [(2, some (.cells W1)), (6, some (.cells [lj r1.1, li .u8 (IntKind.wrap .u8 r2.1), lj 0, lj 0, lj i44, ls s45, lj i50, ls s51, lj 0, ls be, lj 0, ls be])), (11, some (.cells (Reader_fields.cells g49)))] (F98_u52 n r1 r2 i44 s45 g49 i50 s51) (QB 0 (QT Tryz.prog D (n + 8) p98c65 (QF false pc98_r 0 F98_e))) := by
  unfold F98_u52
  refine SimL.succ (.seq (.rg W37 (W86 r1 r2 i44 s45 i50 s51 g49) (.ru 1 [] (.thenN (.seq (.ct (.skip (.thenN (.seq (.block (.su 2 [] (.block (.su 6 [] (.cd _ ?_ ?_))))))))))))))
  ·refine Sim.exit (.blockY rfl (.blockY rfl (.thenX (.loopX (.blockX (.thenN (.pr [2, 5, 6] [2, 6, 11] [] W21 (W86 r1 r2 i44 s45 i50 s51 g49) ?_)))))))
   exact F98_j74_ok n r1 r2 g49 i44 s45 i50 s51 0 be 0 be
  ·refine Sim.sv 3 [] (.cl 64 true [[], []] 93 [62, 63] none (fun r53 => qb r53) [.one (li .u8 (iw .u8 r2.1)), qj 2] (F93_ok _ _ _) (fun r53 => ?_))
   refine SimI.ru 1 [] (.thenN (.cd _ ?_ ?_))
   ·refine Sim.region0 (.rv 2 [] (.bn ⟨some 67, .call true [[]] 101 [66], none, []⟩ (fun r54 => (W77 r54)) (fun r54 => (W54 r54)) (fun r54 hr => pe (qc (ARGS := [qp 11 0]) (ks := [11]) (os := [(Reader_fields.cells g49)]) (os' := [(Reader_fields.cells r54.2)]) (F101_ok _ _ _ hr))) (fun r54 => ?_)))
    refine SimI.ru 3 [(6, some (.cells [lj r1.1, li .u8 (iw .u8 r2.1), lj 0, lj 0, lj i44, ls s45, lj i50, ls s51, lj r54.1.N, ls r54.1.Text, lj 0, ls be]))] (.blockN (.blockN (.thenN (.region0 (.ru 2 [] (.loopN (.pr [2, 5, 6, 51] [2, 6, 11] [] W36 [(2, some (.cells W1)), (6, some (.cells [lj r1.1, li .u8 (iw .u8 r2.1), lj 0, lj 0, lj i44, ls s45, lj i50, ls s51, lj r54.1.N, ls r54.1.Text, lj 0, ls be])), (11, some (.cells (Reader_fields.cells r54.2)))] ?_)))))))
    exact F98_u58_ok n r1 r2 i44 s45 i50 s51 r54.2 r54.1.N r54.1.Text
   ·refine Sim.skip (.blockN (.blockN (.thenN (.region0 (.ru 2 [] (.loopN (.pr [2, 5, 6, 51] [2, 6, 11] [] W36 (W86 r1 r2 i44 s45 i50 s51 g49) ?_)))))))
    exact F98_u58_ok n r1 r2 i44 s45 i50 s51 g49 0 be
def F98_u46 (n : Nat) (r1 r2 : (Int × Reader_fields)) (g43 : Reader_fields) (i44 : Int) (s45 : ByteArray) : Option (Delta × Int × Int) :=
  if g43.e != 0 then
   F98_j74 n r1 r2 g43 i44 s45 0 ByteArray.empty 0 ByteArray.empty 0 ByteArray.empty
  else
   (F93 n (IntKind.wrap .u8 r2.1) 1).bind fun (r47 : Bool) =>
   if r47 then
    (F101 n g43).bind fun (r48 : (Field × Reader_fields)) =>
    F98_u52 n r1 r2 i44 s45 r48.2 r48.1.N r48.1.Text
   else
    F98_u52 n r1 r2 i44 s45 g43 0 ByteArray.empty
theorem F98_u46_ok (n : Nat) (r1 r2 : (Int × Reader_fields)) (g43 : Reader_fields) (i44 : Int) (s45 : ByteArray) : SimL Tryz.prog D (n + 8) (n + 7) p98c43 W38 [(2, some (.cells W1)), (6, some (.cells [lj r1.1, li .u8 (IntKind.wrap .u8 r2.1), lj 0, lj 0, lj i44, ls s45, lj 0, ls be, lj 0, ls be, lj 0, ls be])), (11, some (.cells (Reader_fields.cells g43)))] (F98_u46 n r1 r2 g43 i44 s45) (QB 0 (QT Tryz.prog D (n + 8) p98c65 (QF false pc98_r 0 F98_e))) := by
  unfold F98_u46
  refine SimL.succ (.seq (.rg W38 (W66 r1 r2 i44 s45 g43) (.ru 1 [] (.thenN (.seq (.ct (.skip (.thenN (.seq (.block (.su 2 [] (.block (.su 6 [] (.cd _ ?_ ?_))))))))))))))
  ·refine Sim.exit (.blockY rfl (.blockY rfl (.thenX (.loopX (.blockX (.thenN (.pr [2, 5, 6] [2, 6, 11] [] W21 (W66 r1 r2 i44 s45 g43) ?_)))))))
   exact F98_j74_ok n r1 r2 g43 i44 s45 0 be 0 be 0 be
  ·refine Sim.sv 3 [] (.cl 64 true [[], []] 93 [62, 63] none (fun r47 => qb r47) [.one (li .u8 (iw .u8 r2.1)), qj 1] (F93_ok _ _ _) (fun r47 => ?_))
   refine SimI.ru 1 [] (.thenN (.cd _ ?_ ?_))
   ·refine Sim.region0 (.rv 2 [] (.bn ⟨some 67, .call true [[]] 101 [66], none, []⟩ (fun r48 => (W77 r48)) (fun r48 => (W54 r48)) (fun r48 hr => pe (qc (ARGS := [qp 11 0]) (ks := [11]) (os := [(Reader_fields.cells g43)]) (os' := [(Reader_fields.cells r48.2)]) (F101_ok _ _ _ hr))) (fun r48 => ?_)))
    refine SimI.ru 3 [(6, some (.cells [lj r1.1, li .u8 (iw .u8 r2.1), lj 0, lj 0, lj i44, ls s45, lj r48.1.N, ls r48.1.Text, lj 0, ls be, lj 0, ls be]))] (.blockN (.blockN (.thenN (.region0 (.ru 2 [] (.loopN (.pr [2, 5, 6, 51] [2, 6, 11] [] W37 [(2, some (.cells W1)), (6, some (.cells [lj r1.1, li .u8 (iw .u8 r2.1), lj 0, lj 0, lj i44, ls s45, lj r48.1.N, ls r48.1.Text, lj 0, ls be, lj 0, ls be])), (11, some (.cells (Reader_fields.cells r48.2)))] ?_)))))))
    exact F98_u52_ok n r1 r2 i44 s45 r48.2 r48.1.N r48.1.Text
   ·refine Sim.skip (.blockN (.blockN (.thenN (.region0 (.ru 2 [] (.loopN (.pr [2, 5, 6, 51] [2, 6, 11] [] W37 (W66 r1 r2 i44 s45 g43) ?_)))))))
    exact F98_u52_ok n r1 r2 i44 s45 g43 0 be
def F98_j3 (n : Nat) (r1 r2 : (Int × Reader_fields)) : Option (Delta × Int × Int) :=
  if (bitsI .and .u8 (IntKind.wrap .u8 r2.1) 1) != 0 then
   (F100 n r2.2).bind fun (r4 : (Int × Reader_fields)) =>
   (F100 n r4.2).bind fun (r5 : (Int × Reader_fields)) =>
   if r5.2.e != 0 then
    F98_j39 n r1 r2 r4 r5 r5.2 0 ByteArray.empty 0 ByteArray.empty 0 ByteArray.empty 0 ByteArray.empty
   else
    (F93 n (IntKind.wrap .u8 r2.1) 0).bind fun (r6 : Bool) =>
    if r6 then
     (F101 n r5.2).bind fun (r7 : (Field × Reader_fields)) =>
     F98_u11 n r1 r2 r4 r5 r7.2 r7.1.N r7.1.Text
    else
     F98_u11 n r1 r2 r4 r5 r5.2 0 ByteArray.empty
  else
   if r2.2.e != 0 then
    F98_j74 n r1 r2 r2.2 0 ByteArray.empty 0 ByteArray.empty 0 ByteArray.empty 0 ByteArray.empty
   else
    (F93 n (IntKind.wrap .u8 r2.1) 0).bind fun (r41 : Bool) =>
    if r41 then
     (F101 n r2.2).bind fun (r42 : (Field × Reader_fields)) =>
     F98_u46 n r1 r2 r42.2 r42.1.N r42.1.Text
    else
     F98_u46 n r1 r2 r2.2 0 ByteArray.empty
theorem F98_j3_ok (n : Nat) (r1 r2 : (Int × Reader_fields)) : Sim Tryz.prog D (n + 8) p98c68 [(2, qp 2 0), (5, qp 11 0), (6, qp 6 0), (7, qj r2.1)] (W51 r1 r2) (F98_j3 n r1 r2) (QF false pc98_r 0 F98_e) := by
  unfold F98_j3
  refine Sim.seq (.seq (.rs (.ru 4 [(6, some (.cells [lj r1.1, li .u8 (iw .u8 r2.1), lj 0, lj 0, lj 0, ls be, lj 0, ls be, lj 0, ls be, lj 0, ls be]))] (.thenN (.su 4 [] (.cd _ ?_ ?_))))))
  ·refine Sim.sv 1 [] (.bn ⟨some 44, .call true [[]] 100 [43], none, []⟩ (fun r4 => [(44, qj r4.1)]) (fun r4 => (W127 r4)) (fun r4 hr => pe (qc (ARGS := [qp 11 0]) (ks := [11]) (os := [(Reader_fields.cells r2.2)]) (os' := [(Reader_fields.cells r4.2)]) (F100_ok _ _ _ hr))) (fun r4 => ?_))
   refine SimI.ru 3 [(6, some (.cells [lj r1.1, li .u8 (iw .u8 r2.1), lj r4.1, lj 0, lj 0, ls be, lj 0, ls be, lj 0, ls be, lj 0, ls be]))] (.thenN (.region0 (.rv 1 [] (.bn ⟨some 48, .call true [[]] 100 [47], none, []⟩ (fun r5 => [(48, qj r5.1)]) (fun r5 => (W127 r5)) (fun r5 hr => pe (qc (ARGS := [qp 11 0]) (ks := [11]) (os := [(Reader_fields.cells r4.2)]) (os' := [(Reader_fields.cells r5.2)]) (F100_ok _ _ _ hr))) (fun r5 => ?_)))))
   refine SimI.ru 3 [(6, some (.cells [lj r1.1, li .u8 (iw .u8 r2.1), lj r4.1, lj r5.1, lj 0, ls be, lj 0, ls be, lj 0, ls be, lj 0, ls be]))] (.thenN (.seq (.label (.thenN (.seq (.su 1 [] (.block (.loop (.succ (.seq (.rg [(2, qp 2 0), (5, qp 11 0), (6, qp 6 0), (51, qj 0)] (W63 r1 r2 r4 r5) (.ru 1 [] (.thenN (.seq (.ct (.skip (.thenN (.seq (.block (.su 2 [] (.block (.su 6 [] (.cd _ ?_ ?_)))))))))))))))))))))))
   ·refine Sim.exit (.blockY rfl (.blockY rfl (.thenX (.loopX (.blockX (.thenN (.pr [2, 5, 6] [2, 6, 11] [] W21 (W63 r1 r2 r4 r5) ?_)))))))
    exact F98_j39_ok n r1 r2 r4 r5 r5.2 0 be 0 be 0 be 0 be
   ·refine Sim.sv 3 [] (.cl 64 true [[], []] 93 [62, 63] none (fun r6 => qb r6) [.one (li .u8 (iw .u8 r2.1)), qj 0] (F93_ok _ _ _) (fun r6 => ?_))
    refine SimI.ru 1 [] (.thenN (.cd _ ?_ ?_))
    ·refine Sim.region0 (.rv 2 [] (.bn ⟨some 67, .call true [[]] 101 [66], none, []⟩ (fun r7 => (W77 r7)) (fun r7 => (W54 r7)) (fun r7 hr => pe (qc (ARGS := [qp 11 0]) (ks := [11]) (os := [(Reader_fields.cells r5.2)]) (os' := [(Reader_fields.cells r7.2)]) (F101_ok _ _ _ hr))) (fun r7 => ?_)))
     refine SimI.ru 3 [(6, some (.cells [lj r1.1, li .u8 (iw .u8 r2.1), lj r4.1, lj r5.1, lj r7.1.N, ls r7.1.Text, lj 0, ls be, lj 0, ls be, lj 0, ls be]))] (.blockN (.blockN (.thenN (.region0 (.ru 2 [] (.loopN (.pr [2, 5, 6, 51] [2, 6, 11] [] W38 [(2, some (.cells W1)), (6, some (.cells [lj r1.1, li .u8 (iw .u8 r2.1), lj r4.1, lj r5.1, lj r7.1.N, ls r7.1.Text, lj 0, ls be, lj 0, ls be, lj 0, ls be])), (11, some (.cells (Reader_fields.cells r7.2)))] ?_)))))))
     exact F98_u11_ok n r1 r2 r4 r5 r7.2 r7.1.N r7.1.Text
    ·refine Sim.skip (.blockN (.blockN (.thenN (.region0 (.ru 2 [] (.loopN (.pr [2, 5, 6, 51] [2, 6, 11] [] W38 (W63 r1 r2 r4 r5) ?_)))))))
     exact F98_u11_ok n r1 r2 r4 r5 r5.2 0 be
  ·refine Sim.skip (.thenN (.seq (.label (.thenN (.seq (.su 1 [] (.block (.loop (.succ (.seq (.rg [(2, qp 2 0), (5, qp 11 0), (6, qp 6 0), (51, qj 0)] (W44 r1 r2) (.ru 1 [] (.thenN (.seq (.ct (.skip (.thenN (.seq (.block (.su 2 [] (.block (.su 6 [] (.cd _ ?_ ?_)))))))))))))))))))))))
   ·refine Sim.exit (.blockY rfl (.blockY rfl (.thenX (.loopX (.blockX (.thenN (.pr [2, 5, 6] [2, 6, 11] [] W21 (W44 r1 r2) ?_)))))))
    exact F98_j74_ok n r1 r2 r2.2 0 be 0 be 0 be 0 be
   ·refine Sim.sv 3 [] (.cl 64 true [[], []] 93 [62, 63] none (fun r41 => qb r41) [.one (li .u8 (iw .u8 r2.1)), qj 0] (F93_ok _ _ _) (fun r41 => ?_))
    refine SimI.ru 1 [] (.thenN (.cd _ ?_ ?_))
    ·refine Sim.region0 (.rv 2 [] (.bn ⟨some 67, .call true [[]] 101 [66], none, []⟩ (fun r42 => (W77 r42)) (fun r42 => (W54 r42)) (fun r42 hr => pe (qc (ARGS := [qp 11 0]) (ks := [11]) (os := [(Reader_fields.cells r2.2)]) (os' := [(Reader_fields.cells r42.2)]) (F101_ok _ _ _ hr))) (fun r42 => ?_)))
     refine SimI.ru 3 [(6, some (.cells [lj r1.1, li .u8 (iw .u8 r2.1), lj 0, lj 0, lj r42.1.N, ls r42.1.Text, lj 0, ls be, lj 0, ls be, lj 0, ls be]))] (.blockN (.blockN (.thenN (.region0 (.ru 2 [] (.loopN (.pr [2, 5, 6, 51] [2, 6, 11] [] W38 [(2, some (.cells W1)), (6, some (.cells [lj r1.1, li .u8 (iw .u8 r2.1), lj 0, lj 0, lj r42.1.N, ls r42.1.Text, lj 0, ls be, lj 0, ls be, lj 0, ls be])), (11, some (.cells (Reader_fields.cells r42.2)))] ?_)))))))
     exact F98_u46_ok n r1 r2 r42.2 r42.1.N r42.1.Text
    ·refine Sim.skip (.blockN (.blockN (.thenN (.region0 (.ru 2 [] (.loopN (.pr [2, 5, 6, 51] [2, 6, 11] [] W38 (W44 r1 r2) ?_)))))))
     exact F98_u46_ok n r1 r2 r2.2 0 be
def F98 (n : Nat) (a0 : ByteArray) : Option (Delta × Int × Int) :=
 (F100 n (Reader_fields.mk a0 0 0)).bind fun (r1 : (Int × Reader_fields)) =>
 (F100 n r1.2).bind fun (r2 : (Int × Reader_fields)) =>
 if r2.2.e == 0 then
  if decide ((1000000 : Int) < r1.1) then
   some ((Delta.mk 0 0 (Point.mk 0 0) (A4.mk (Field.mk 0 ByteArray.empty) (Field.mk 0 ByteArray.empty) (Field.mk 0 ByteArray.empty) (Field.mk 0 ByteArray.empty))), 0, 11)
  else
   if r2.1 == 0 then
    some ((Delta.mk 0 0 (Point.mk 0 0) (A4.mk (Field.mk 0 ByteArray.empty) (Field.mk 0 ByteArray.empty) (Field.mk 0 ByteArray.empty) (Field.mk 0 ByteArray.empty))), 0, 11)
   else
    if decide ((31 : Int) < r2.1) then
     some ((Delta.mk 0 0 (Point.mk 0 0) (A4.mk (Field.mk 0 ByteArray.empty) (Field.mk 0 ByteArray.empty) (Field.mk 0 ByteArray.empty) (Field.mk 0 ByteArray.empty))), 0, 11)
    else
     F98_j3 n r1 r2
 else
  F98_j3 n r1 r2
theorem F98_ok (n : Nat) (a0 : ByteArray) : ∀ r, F98 n a0 = some r → D 98 [.one (ls a0)] [] = some (F98_e r) := by
 refine fn_to (D := D) (n := n + 8) (nt := 90) (rs := pc98_r) (c := p98c74) (L := [(0, qs a0)]) (M := []) (k := 0) rfl rfl rfl rfl rfl rfl rfl ?_
 unfold F98
 refine Sim.su 3 [(2, some (.cells W1))] (.scope (.su 4 [(11, some (.cells [ls a0, lj 0, lj 0]))] (.sv 1 [] (.bn ⟨some 13, .call true [[]] 100 [12], none, []⟩ (fun r1 => [(13, qj r1.1)]) (fun r1 => (W127 r1)) (fun r1 hr => pe (qc (ARGS := [qp 11 0]) (ks := [11]) (os := [[ls a0, lj 0, lj 0]]) (os' := [(Reader_fields.cells r1.2)]) (F100_ok _ _ _ hr))) (fun r1 => ?_)))))
 refine SimI.ru 3 [(6, some (.cells [lj r1.1, li .u8 0, lj 0, lj 0, lj 0, ls be, lj 0, ls be, lj 0, ls be, lj 0, ls be])), (6, some (.cells W1))] (.thenN (.sv 1 [] (.bn ⟨some 16, .call true [[]] 100 [15], none, []⟩ (fun r2 => [(16, qj r2.1)]) (fun r2 => (W127 r2)) (fun r2 hr => pe (qc (ARGS := [qp 11 0]) (ks := [11]) (os := [(Reader_fields.cells r1.2)]) (os' := [(Reader_fields.cells r2.2)]) (F100_ok _ _ _ hr))) (fun r2 => ?_))))
 refine SimI.ru 1 [] (.thenN (.seq (.sv 6 [] (.sp 22 _ ?_ ?_))))
 ·refine SimI.rv 4 [] (.sp 26 _ ?_ ?_)
  ·exact SimI.ru 8 [] (.thenN (.ct (.su 4 [(2, some (.cells W1))] (.ret (.thenR .fn)))))
  ·refine SimI.rv 4 [] (.sp 30 _ ?_ ?_)
   ·exact SimI.ru 4 [] (.thenN (.ct (.su 4 [(2, some (.cells W1))] (.ret (.thenR .fn)))))
   ·refine SimI.ru 4 [] (.thenN (.cd _ ?_ ?_))
    ·exact Sim.su 4 [(2, some (.cells W1))] (.ret (.thenR .fn))
    ·refine Sim.skip (.thenN (.pr [2, 5, 6, 7] [2, 6, 11] [] [(2, qp 2 0), (5, qp 11 0), (6, qp 6 0), (7, qj r2.1)] (W51 r1 r2) ?_))
     exact F98_j3_ok n r1 r2
 ·refine SimI.ru 12 [] (.thenN (.cf (.skip (.thenN (.pr [2, 5, 6, 7] [2, 6, 11] [] [(2, qp 2 0), (5, qp 11 0), (6, qp 6 0), (7, qj r2.1)] (W51 r1 r2) ?_)))))
  exact F98_j3_ok n r1 r2
def F94_e : (Thing × Int × Int) → PV × List Ob := fun r => (.tup [.agg (Thing.cells r.1), .one (li .i64 r.2.1), .one (li .i64 r.2.2)], [])
def F94 (n : Nat) (a0 : ByteArray) : Option (Thing × Int × Int) :=
 (F98 n a0).bind fun (r1 : (Delta × Int × Int)) =>
 if r1.2.2 != 0 then
  some ((Thing.mk 0 (Point.mk 0 0) (A4.mk (Field.mk 0 ByteArray.empty) (Field.mk 0 ByteArray.empty) (Field.mk 0 ByteArray.empty) (Field.mk 0 ByteArray.empty))), 0, r1.2.2)
 else
  if r1.1.Mask != 31 then
   some ((Thing.mk 0 (Point.mk 0 0) (A4.mk (Field.mk 0 ByteArray.empty) (Field.mk 0 ByteArray.empty) (Field.mk 0 ByteArray.empty) (Field.mk 0 ByteArray.empty))), 0, 11)
  else
   some ((Thing.mk r1.1.ID r1.1.At r1.1.F), r1.2.1, 0)
theorem F94_ok (n : Nat) (a0 : ByteArray) : ∀ r, F94 n a0 = some r → D 94 [.one (ls a0)] [] = some (F94_e r) := by
 refine fn_to (D := D) (n := n + 8) (nt := 32) (rs := pc94_r) (c := p94c22) (L := [(0, qs a0)]) (M := []) (k := 0) rfl rfl rfl rfl rfl rfl rfl ?_
 unfold F94
 refine Sim.su 3 [(2, some (.cells W34))] (.sv 1 [] (.cl 10 true [[]] 98 [9] none (fun r1 => .tup [.agg (Delta.cells r1.1), qj r1.2.1, qj r1.2.2]) [qs a0] (F98_ok _ _) (fun r1 => ?_)))
 refine SimI.ru 8 [(5, some (.cells (Delta.cells r1.1))), (5, some (.cells W1))] (.thenN (.seq (.block (.su 3 [] (.cd _ ?_ ?_)))))
 ·exact Sim.su 5 [(2, some (.cells W34))] (.ret (.blockR (.thenR .fn)))
 ·refine Sim.su 4 [] (.cd _ ?_ ?_)
  ·exact Sim.su 4 [(2, some (.cells W34))] (.ret (.blockR (.thenR .fn)))
  ·exact Sim.skip (.blockN (.thenN (.su 11 [(2, some (.cells [lj r1.1.ID, lj r1.1.At.X, lj r1.1.At.Y, lj r1.1.F.a0.N, ls r1.1.F.a0.Text, lj r1.1.F.a1.N, ls r1.1.F.a1.Text, lj r1.1.F.a2.N, ls r1.1.F.a2.Text, lj r1.1.F.a3.N, ls r1.1.F.a3.Text]))] (.ret .fn))))
def F83_e : ((List Thing) × Int × Int) → PV × List Ob := fun r => (.tup [.one (vw Thing.cod r.1), .one (li .i64 r.2.1), .one (li .i64 r.2.2)], [])
def F83_j14 (n : Nat) (ii8 : Int) (l9 : (List Thing)) (i10 : Int) (r12 : (Thing × Int × Int)) (rec_l11 : Int → (List Thing) → Int → Option ((List Thing) × Int × Int)) : Option ((List Thing) × Int × Int) :=
  if ((l9).length + 1) * 120 ≤ maxCells ∧ (l9).length + 1 ≤ maxCells then
   rec_l11 (IntKind.wrap .i64 (ii8 + r12.2.1)) (l9 ++ [r12.1]) (IntKind.wrap .u64 (i10 + 1))
  else none
theorem F83_j14_ok (n : Nat) (a0 : ByteArray) (r1 : (Int × Int × Int)) (ii8 : Int) (l9 : (List Thing)) (i10 : Int) (r12 : (Thing × Int × Int)) (rec_l11 : Int → (List Thing) → Int → Option ((List Thing) × Int × Int)) (m_l11 : Nat) (ih_l11 : ∀ (ii8 : Int) (l9 : (List Thing)) (i10 : Int), SimL Tryz.prog D (n + 8) m_l11 p83c48 (W124 a0 ii8 l9 r1 i10) (W102 l9) (rec_l11 ii8 l9 i10) (QB 1 (QT Tryz.prog D (n + 8) p83c54 (QF false pc83_r 0 F83_e)))) : Sim Tryz.prog D (n + 8) p83c40 (W104 a0 ii8 l9 r12 r1 i10) (W87 r12 l9) (F83_j14 n ii8 l9 i10 r12 rec_l11) (QB 2 (QT Tryz.prog D (n + 8) p83c45 (QL Tryz.prog D (n + 8) m_l11 p83c48 (QB 1 (QT Tryz.prog D (n + 8) p83c54 (QF false pc83_r 0 F83_e)))))) := by
  unfold F83_j14
  refine Sim.seq (.rs (.rv 3 [] (.gu ⟨some 57, .app 100008 47 11 120 54 56, none, []⟩ [(57, .one (.osl 100008 (0 + 1) 0 ((l9 ++ [r12.1])).length))] [(100008, some (.arr 47 Thing.cod.sz (0 + 1) ((l9 ++ [r12.1])).length (getOf Thing.cod (l9 ++ [r12.1]))))] (fun hc => pe (eff_appO (c := Thing.cod) (g := 0) (l := l9) (a := r12.1) (by kernel_rfl) (by kernel_rfl) (by kernel_rfl) (by kernel_rfl) hc)) (.ru 1 [] (.thenN (.region0 (.ru 4 [] (.blockN (.thenN (.region0 (.ru 2 [] (.loopN (.pr [0, 6, 8, 25, 26] [9, 100008] [(false, 8, 0, 100008, 47, 11)] [(0, qs a0), (6, qj (iw .i64 (ii8 + r12.2.1))), (8, .one (.osl 100008 0 0 ((l9 ++ [r12.1])).length)), (25, .one (li .u64 r1.1)), (26, .one (li .u64 (iw .u64 (i10 + 1))))] [(100008, some (.arr 47 Thing.cod.sz 0 ((l9 ++ [r12.1])).length (getOf Thing.cod (l9 ++ [r12.1]))))] ?_)))))))))))))
  exact ih_l11 (iw .i64 (ii8 + r12.2.1)) (l9 ++ [r12.1]) (iw .u64 (i10 + 1))
def F83_l11 (n : Nat) (a0 : ByteArray) (r1 : (Int × Int × Int)) : Nat → Int → (List Thing) → Int → Option ((List Thing) × Int × Int)
 | 0, _, _, _ => none
 | m + 1, ii8, l9, i10 =>
  if decide (i10 < r1.1) then
   if 0 ≤ (ii8 : Int) ∧ (ii8 : Int) ≤ (a0.size : Int) then
    (F94 n (a0.extract ii8.toNat a0.size)).bind fun (r12 : (Thing × Int × Int)) =>
    if r12.2.2 != 0 then
     some (([] : List Thing), 0, r12.2.2)
    else
     if decide ((0 : Int) < ((l9).length : Int)) then
      (ix l9 (IntKind.wrap .i64 (((l9).length : Int) - 1))).bind fun (x13 : Thing) =>
      if decide (r12.1.ID ≤ x13.ID) then
       some (([] : List Thing), 0, 11)
      else
       F83_j14 n ii8 l9 i10 r12 (F83_l11 n a0 r1 m)
     else
      F83_j14 n ii8 l9 i10 r12 (F83_l11 n a0 r1 m)
   else none
  else
   some (l9, ii8, 0)
theorem F83_l11_ok (n : Nat) (a0 : ByteArray) (r1 : (Int × Int × Int)) : ∀ (m : Nat) (ii8 : Int) (l9 : (List Thing)) (i10 : Int), SimL Tryz.prog D (n + 8) m p83c48 (W124 a0 ii8 l9 r1 i10) (W102 l9) (F83_l11 n a0 r1 m ii8 l9 i10) (QB 1 (QT Tryz.prog D (n + 8) p83c54 (QF false pc83_r 0 F83_e))) := by
 intro m_l11
 induction m_l11 with
 | zero => intro ii8 l9 i10; exact SimL.zero'  rfl
 | succ m_l11 ih_l11 =>
  intro ii8 l9 i10
  refine SimL.succ ?_
  unfold F83_l11
  refine Sim.seq (.rg (W124 a0 ii8 l9 r1 i10) (W102 l9) (.ru 1 [] (.thenN (.seq (.cd _ ?_ ?_)))))
  ·refine Sim.skip (.thenN (.seq (.block (.sv 2 [] (.gp 31 (.slice 9 true false) [29, 30] none [] (fun hc => pr_cutL (s := a0) (k := .i64) (a := ii8) Tryz.underlying9 hc) (.cl 32 true [[]] 94 [31] none (fun r12 => .tup [.agg (Thing.cells r12.1), qj r12.2.1, qj r12.2.2]) [qs (a0.extract ii8.toNat a0.size)] (F94_ok _ _) (fun r12 => ?_)))))))
   refine SimI.ru 8 [(9, some (.cells (Thing.cells r12.1))), (9, some (.cells W34))] (.thenN (.seq (.su 2 [] (.cd _ ?_ ?_))))
   ·exact Sim.su 4 [] (.ret (.thenR (.blockR (.thenR (.loopR (.blockR (.thenR .fn)))))))
   ·refine Sim.skip (.thenN (.seq (.sv 4 [] (.sp 42 _ ?_ ?_))))
    ·refine SimI.rv 6 [] (.bindh (og := ix l9 (iw .i64 (((l9).length : Int) - 1))) ⟨some 49, .iaddrS 11 45 48, some (42, true), [(45, Hint.obj 100008), (48, .imm)]⟩ (fun x13 => [(49, .one (.aptr 100008 0 ((iw .i64 (((l9).length : Int) - 1)).toNat) 0))]) (fun x13 => []) (by kernel_rfl) (fun x13 hr => pe (eff_idxO (c := Thing.cod) (l := l9) (g := 0) (el := 47) (k := .i64) (n := IntKind.wrap .i64 (((l9).length : Int) - 1)) (by kernel_rfl) (by kernel_rfl) (by kernel_rfl) (by kernel_rfl) hr)) (fun x13 hx13 => ?_))
     refine SimI.rv 1 [] (.se ⟨some 51, .load false 1 50, some (42, true), [(50, Hint.obj 100008)]⟩ [(51, qj x13.ID)] [] (pe (eff_loadO (c := Thing.cod) (a := x13) (l := l9) (key := 100008) (g := 0) (el := 47) (off := 0) (i := (iw .i64 (((l9).length : Int) - 1)).toNat) (by kernel_rfl) (by kernel_rfl) (ix_some hx13).2.2.2 (by kernel_rfl))) (.ru 2 [] (.thenN (.cd _ ?_ ?_))))
     ·exact Sim.su 3 [] (.ret (.thenR (.blockR (.thenR (.loopR (.blockR (.thenR .fn)))))))
     ·refine Sim.skip (.thenN (.pr [0, 6, 8, 9, 10, 25, 26] [9, 100008] [] (W104 a0 ii8 l9 r12 r1 i10) (W87 r12 l9) ?_))
      exact F83_j14_ok n a0 r1 ii8 l9 i10 r12 (F83_l11 n a0 r1 m_l11) m_l11 ih_l11
    ·refine SimI.ru 11 [] (.thenN (.cf (.skip (.thenN (.pr [0, 6, 8, 9, 10, 25, 26] [9, 100008] [] (W104 a0 ii8 l9 r12 r1 i10) (W87 r12 l9) ?_)))))
     exact F83_j14_ok n a0 r1 ii8 l9 i10 r12 (F83_l11 n a0 r1 m_l11) m_l11 ih_l11
  ·exact Sim.exit (.thenX (.loopX (.blockX (.thenN (.su 5 [] (.ret (.fin (out_of (os := []) (ress_cons (resOf_own (c := Thing.cod) (k := 100008) (g := 0) (el := 47) (l := l9) (by kernel_rfl) (by kernel_rfl) (by kernel_rfl)) (ress_cons (v := qj ii8) (by kernel_rfl) (ress_cons (v := qj 0) (by kernel_rfl) (ress_nil)))) (by kernel_rfl) rfl (by kernel_rfl)))))))))
def F83 (n : Nat) (a0 : ByteArray) : Option ((List Thing) × Int × Int) :=
 (F82 n a0).bind fun (r1 : (Int × Int × Int)) =>
 if r1.2.2 != 0 then
  some (([] : List Thing), 0, r1.2.2)
 else
  if decide ((200 : Int) < r1.1) then
   some (([] : List Thing), 0, 13)
  else
   F83_l11 n a0 r1 (n + 8) r1.2.1 ([] : List Thing) 0
theorem F83_ok (n : Nat) (a0 : ByteArray) : ∀ r, F83 n a0 = some r → D 83 [.one (ls a0)] [] = some (F83_e r) := by
 refine fn_to (D := D) (n := n + 8) (nt := 64) (rs := pc83_r) (c := p83c59) (L := [(0, qs a0)]) (M := []) (k := 0) rfl rfl rfl rfl rfl rfl rfl ?_
 unfold F83
 refine Sim.su 3 [] (.sv 1 [] (.cl 14 true [[]] 82 [13] none (fun r1 => .tup (W118 r1)) [qs a0] (F82_ok _ _) (fun r1 => ?_)))
 refine SimI.ru 7 [] (.thenN (.seq (.block (.su 3 [] (.cd _ ?_ ?_)))))
 ·exact Sim.su 4 [] (.ret (.blockR (.thenR .fn)))
 ·refine Sim.su 3 [] (.cd _ ?_ ?_)
  ·exact Sim.su 3 [] (.ret (.blockR (.thenR .fn)))
  ·refine Sim.skip (.blockN (.thenN (.su 1 [] (.seq (.su 2 [] (.block (.loop (.pr [0, 6, 8, 25, 26] [9, 100008] [(false, 8, 0, 100008, 47, 11)] [(0, qs a0), (6, qj r1.2.1), (8, .one (.osl 100008 0 0 (([] : List Thing)).length)), (25, .one (li .u64 r1.1)), (26, .one (li .u64 0))] [(100008, some (.arr 47 Thing.cod.sz 0 (([] : List Thing)).length (getOf Thing.cod ([] : List Thing))))] ?_))))))))
   exact F83_l11_ok n a0 r1 (n + 8) r1.2.1 ([] : List Thing) 0
def F58_e : ((List Thing) × Reader) → PV × List Ob := fun r => (.one (vw Thing.cod r.1), [.cells (Reader.cells r.2)])
def F58 (n : Nat) (a0 : Reader) : Option ((List Thing) × Reader) :=
 if a0.fails then
  some (([] : List Thing), a0)
 else
  if 0 ≤ (a0.at_ : Int) ∧ (a0.at_ : Int) ≤ (a0.s.size : Int) then
   (F83 n (a0.s.extract a0.at_.toNat a0.s.size)).bind fun (r1 : ((List Thing) × Int × Int)) =>
   (F60 n a0 r1.2.1 r1.2.2).bind fun (r2 : Reader) =>
   some (r1.1, r2)
  else none
theorem F58_ok (n : Nat) (a0 : Reader) : ∀ r, F58 n a0 = some r → D 58 [.one (.ptr 1000000 0)] [.cells (Reader.cells a0)] = some (F58_e r) := by
 refine fn_to (D := D) (n := n + 8) (nt := 29) (rs := pc58_r) (c := p58c17) (L := [(0, qp 1000000 0)]) (M := (W57 a0)) (k := 1) rfl rfl rfl rfl rfl rfl rfl ?_
 unfold F58
 refine Sim.su 1 [] (.seq (.su 4 [] (.cd _ ?_ ?_)))
 ·exact Sim.su 1 [] (.ret (.thenR .fn))
 ·refine Sim.skip (.thenN (.sv 8 [] (.gp 19 (.slice 9 true false) [14, 18] none [(14, .imm), (18, .imm)] (fun hc => pr_cutL (s := a0.s) (k := .i64) (a := a0.at_) Tryz.underlying9 hc) (.cm 20 false [[]] 83 [19] none [(19, .imm)] (F83_ok _ _) (fun r1 => ?_)))))
  refine SimI.ru 7 [] (.thenN (.sv 3 [] (.bn ⟨some 27, .call true [[], [], []] 60 [24, 25, 26], none, []⟩ (fun r2 => [(27, tz)]) (fun r2 => (W57 r2)) (fun r2 hr => pe (qc (ARGS := [qp 1000000 0, qj r1.2.1, qj r1.2.2]) (ks := [1000000]) (os := [(Reader.cells a0)]) (os' := [(Reader.cells r2)]) (F60_ok _ _ _ _ _ hr))) (fun r2 => ?_))))
  exact SimI.dn (.thenN (.su 2 [] (.ret .fn)))
def F84s0_e (a0 : ByteArray) (a1 : Int) : (Int × Int × Int) → PV × List Ob := fun r => (.tup [.one (li .i64 r.1), .one (li .i64 r.2.1)], [.cells [ls a0], .cells [li .i64 r.2.2]])
def F84s0 (n : Nat) (a0 : ByteArray) (a1 : Int) : Option (Int × Int × Int) :=
 if 0 ≤ (a1 : Int) ∧ (a1 : Int) ≤ (a0.size : Int) then
  (F85 n (a0.extract a1.toNat a0.size)).bind fun (r1 : (Int × Int × Int)) =>
  some (r1.1, r1.2.2, (IntKind.wrap .i64 (a1 + r1.2.1)))
 else none
theorem F84s0_ok (n : Nat) (a0 : ByteArray) (a1 : Int) : ∀ r, F84s0 n a0 a1 = some r → D 84 [.one (.ptr 1000000 0), .one (.ptr 1000001 0)] [.cells [ls a0], .cells [li .i64 a1]] = some ((F84s0_e a0 a1) r) := by
 refine fn_to (D := D) (n := n + 8) (nt := 20) (rs := pc84_r) (c := p84c9) (L := [(0, qp 1000000 0), (1, qp 1000001 0)]) (M := [(1000000, some (.cells [ls a0])), (1000001, some (.cells [lj a1]))]) (k := 2) rfl rfl rfl rfl rfl rfl rfl ?_
 unfold F84s0
 refine Sim.su 2 [] (.sv 2 [] (.gp 10 (.slice 9 true false) [8, 9] none [] (fun hc => pr_cutL (s := a0) (k := .i64) (a := a1) Tryz.underlying9 hc) (.cl 11 true [[]] 85 [10] none (fun r1 => .tup [qj r1.1, qj r1.2.1, qj r1.2.2]) [qs (a0.extract a1.toNat a0.size)] (F85_ok _ _) (fun r1 => ?_))))
 exact SimI.ru 7 [] (.thenN (.su 4 [(1000001, some (.cells [lj (iw .i64 (a1 + r1.2.1))]))] (.su 4 [] (.ret .fn))))
end Go.Proofs.YtpjejnefegdoeaaGreat
