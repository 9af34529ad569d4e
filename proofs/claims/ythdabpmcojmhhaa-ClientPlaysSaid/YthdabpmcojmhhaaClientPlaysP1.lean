/- No condition. -/
import Derived.Test.YthdabpmcojmhhaaClientPlaysP0
namespace Go.Proofs.Ythdabpmcojmhhaa
open Go Go.Rx
set_option maxRecDepth 100000
set_option linter.unusedVariables false
set_option linter.unusedSimpArgs false
set_option linter.unnecessarySimpa false
set_option linter.unnecessarySimpa false
def F89_e : Thing → PV × List Ob := fun r => (.agg (Thing.cells r), [])
def F89_u10 (n : Nat) (g9 : Thing) : Option Thing :=
  some g9
theorem F89_u10_ok (n : Nat) (a1 : Delta) (g9 : Thing) : SimL Try.prog D (n + 8) (n + 4) p89c22 W66 (W32 a1 g9) (F89_u10 n g9) (QB 0 (QT Try.prog D (n + 8) p89c28 (QF false pc89_r 0 F89_e))) := by
  unfold F89_u10
  exact SimL.succ (.seq (.seq (.rg W66 (W32 a1 g9) (.ru 2 [] (.thenN (.cf (.exit (.thenX (.loopX (.blockX (.thenN (.su 2 [(4, some (.cells (Thing.cells g9)))] (.ret .fn)))))))))))))
def F89_u8 (n : Nat) (a0 : Thing) (a1 : Delta) (g7 : Thing) : Option Thing :=
  if (zav .and .u8 (shrI .u8 a1.Mask 4) 1) != 0 then
   F89_u10 n (Thing.mk g7.ID g7.At (A4.mk g7.F.a0 g7.F.a1 g7.F.a2 a1.F.a3))
  else
   F89_u10 n g7
theorem F89_u8_ok (n : Nat) (a0 : Thing) (a1 : Delta) (g7 : Thing) : SimL Try.prog D (n + 8) (n + 5) p89c22 W67 (W32 a1 g7) (F89_u8 n a0 a1 g7) (QB 0 (QT Try.prog D (n + 8) p89c28 (QF false pc89_r 0 F89_e))) := by
  unfold F89_u8
  refine SimL.succ (.seq (.seq (.rg W67 (W32 a1 g7) (.ru 2 [] (.thenN (.ct (.skip (.thenN (.seq (.block (.su 8 [] (.cd _ ?_ ?_))))))))))))
  ·refine Sim.region0 (.ru 8 [(5, some (.cells (W34 g7 a1)))] (.blockN (.thenN (.region0 (.ru 3 [] (.loopN (.pr [3, 4, 5, 6] [3, 4, 5] [] W66 [(3, some (.cells (Delta.cells a1))), (4, some (.cells W2)), (5, some (.cells (W34 g7 a1)))] ?_)))))))
   exact F89_u10_ok n a1 (Thing.mk g7.ID g7.At (A4.mk g7.F.a0 g7.F.a1 g7.F.a2 a1.F.a3))
  ·refine Sim.skip (.blockN (.thenN (.region0 (.ru 3 [] (.loopN (.pr [3, 4, 5, 6] [3, 4, 5] [] W66 (W32 a1 g7) ?_))))))
   exact F89_u10_ok n a1 g7
def F89_u6 (n : Nat) (a0 : Thing) (a1 : Delta) (g5 : Thing) : Option Thing :=
  if (zav .and .u8 (shrI .u8 a1.Mask 3) 1) != 0 then
   F89_u8 n a0 a1 (Thing.mk g5.ID g5.At (A4.mk g5.F.a0 g5.F.a1 a1.F.a2 g5.F.a3))
  else
   F89_u8 n a0 a1 g5
theorem F89_u6_ok (n : Nat) (a0 : Thing) (a1 : Delta) (g5 : Thing) : SimL Try.prog D (n + 8) (n + 6) p89c22 W68 (W32 a1 g5) (F89_u6 n a0 a1 g5) (QB 0 (QT Try.prog D (n + 8) p89c28 (QF false pc89_r 0 F89_e))) := by
  unfold F89_u6
  refine SimL.succ (.seq (.seq (.rg W68 (W32 a1 g5) (.ru 2 [] (.thenN (.ct (.skip (.thenN (.seq (.block (.su 8 [] (.cd _ ?_ ?_))))))))))))
  ·refine Sim.region0 (.ru 8 [(5, some (.cells (W35 g5 a1)))] (.blockN (.thenN (.region0 (.ru 3 [] (.loopN (.pr [3, 4, 5, 6] [3, 4, 5] [] W67 [(3, some (.cells (Delta.cells a1))), (4, some (.cells W2)), (5, some (.cells (W35 g5 a1)))] ?_)))))))
   exact F89_u8_ok n a0 a1 (Thing.mk g5.ID g5.At (A4.mk g5.F.a0 g5.F.a1 a1.F.a2 g5.F.a3))
  ·refine Sim.skip (.blockN (.thenN (.region0 (.ru 3 [] (.loopN (.pr [3, 4, 5, 6] [3, 4, 5] [] W67 (W32 a1 g5) ?_))))))
   exact F89_u8_ok n a0 a1 g5
def F89_u4 (n : Nat) (a0 : Thing) (a1 : Delta) (g3 : Thing) : Option Thing :=
  if (zav .and .u8 (shrI .u8 a1.Mask 2) 1) != 0 then
   F89_u6 n a0 a1 (Thing.mk g3.ID g3.At (A4.mk g3.F.a0 a1.F.a1 g3.F.a2 g3.F.a3))
  else
   F89_u6 n a0 a1 g3
theorem F89_u4_ok (n : Nat) (a0 : Thing) (a1 : Delta) (g3 : Thing) : SimL Try.prog D (n + 8) (n + 7) p89c22 W69 (W32 a1 g3) (F89_u4 n a0 a1 g3) (QB 0 (QT Try.prog D (n + 8) p89c28 (QF false pc89_r 0 F89_e))) := by
  unfold F89_u4
  refine SimL.succ (.seq (.seq (.rg W69 (W32 a1 g3) (.ru 2 [] (.thenN (.ct (.skip (.thenN (.seq (.block (.su 8 [] (.cd _ ?_ ?_))))))))))))
  ·refine Sim.region0 (.ru 8 [(5, some (.cells (W36 g3 a1)))] (.blockN (.thenN (.region0 (.ru 3 [] (.loopN (.pr [3, 4, 5, 6] [3, 4, 5] [] W68 [(3, some (.cells (Delta.cells a1))), (4, some (.cells W2)), (5, some (.cells (W36 g3 a1)))] ?_)))))))
   exact F89_u6_ok n a0 a1 (Thing.mk g3.ID g3.At (A4.mk g3.F.a0 a1.F.a1 g3.F.a2 g3.F.a3))
  ·refine Sim.skip (.blockN (.thenN (.region0 (.ru 3 [] (.loopN (.pr [3, 4, 5, 6] [3, 4, 5] [] W68 (W32 a1 g3) ?_))))))
   exact F89_u6_ok n a0 a1 g3
def F89_j2 (n : Nat) (a0 : Thing) (a1 : Delta) (g1 : Thing) : Option Thing :=
  if (zav .and .u8 (shrI .u8 a1.Mask 1) 1) != 0 then
   F89_u4 n a0 a1 (Thing.mk g1.ID g1.At (A4.mk a1.F.a0 g1.F.a1 g1.F.a2 g1.F.a3))
  else
   F89_u4 n a0 a1 g1
theorem F89_j2_ok (n : Nat) (a0 : Thing) (a1 : Delta) (g1 : Thing) : Sim Try.prog D (n + 8) p89c29 [(3, qp 3 0), (4, qp 4 0), (5, qp 5 0)] (W32 a1 g1) (F89_j2 n a0 a1 g1) (QF false pc89_r 0 F89_e) := by
  unfold F89_j2
  refine Sim.seq (.seq (.rs (.ru 1 [] (.thenN (.block (.loop (.succ (.seq (.seq (.rg [(3, qp 3 0), (4, qp 4 0), (5, qp 5 0), (6, qj 0)] (W32 a1 g1) (.ru 2 [] (.thenN (.ct (.skip (.thenN (.seq (.block (.su 8 [] (.cd _ ?_ ?_)))))))))))))))))))
  ·refine Sim.region0 (.ru 8 [(5, some (.cells (W37 g1 a1)))] (.blockN (.thenN (.region0 (.ru 3 [] (.loopN (.pr [3, 4, 5, 6] [3, 4, 5] [] W69 [(3, some (.cells (Delta.cells a1))), (4, some (.cells W2)), (5, some (.cells (W37 g1 a1)))] ?_)))))))
   exact F89_u4_ok n a0 a1 (Thing.mk g1.ID g1.At (A4.mk a1.F.a0 g1.F.a1 g1.F.a2 g1.F.a3))
  ·refine Sim.skip (.blockN (.thenN (.region0 (.ru 3 [] (.loopN (.pr [3, 4, 5, 6] [3, 4, 5] [] W69 (W32 a1 g1) ?_))))))
   exact F89_u4_ok n a0 a1 g1
def F89 (n : Nat) (a0 : Thing) (a1 : Delta) : Option Thing :=
 if (zav .and .u8 a1.Mask 1) != 0 then
  F89_j2 n a0 a1 (Thing.mk a0.ID a1.At a0.F)
 else
  F89_j2 n a0 a1 a0
theorem F89_ok (n : Nat) (a0 : Thing) (a1 : Delta) : ∀ r, F89 n a0 a1 = some r → D 89 [.agg (Thing.cells a0), .agg (Delta.cells a1)] [] = some (F89_e r) := by
 refine zan (D := D) (n := n + 8) (nt := 35) (rs := pc89_r) (c := p89c32) (L := [(0, .agg (Thing.cells a0)), (1, .agg (Delta.cells a1))]) (M := []) (k := 0) rfl rfl rfl rfl rfl rfl rfl ?_
 unfold F89
 refine Sim.su 3 [(4, some (.cells W2)), (3, some (.cells (Delta.cells a1))), (2, some (.cells (Thing.cells a0)))] (.su 3 [(5, some (.cells (Thing.cells a0))), (5, some (.cells W2))] (.seq (.su 4 [] (.cd _ ?_ ?_))))
 ·refine Sim.region0 (.ru 4 [(5, some (.cells (W38 a0 a1)))] (.thenN (.pr [3, 4, 5] [2, 3, 4, 5] [] [(3, qp 3 0), (4, qp 4 0), (5, qp 5 0)] [(3, some (.cells (Delta.cells a1))), (4, some (.cells W2)), (5, some (.cells (W38 a0 a1)))] ?_)))
  exact F89_j2_ok n a0 a1 (Thing.mk a0.ID a1.At a0.F)
 ·refine Sim.skip (.thenN (.pr [3, 4, 5] [2, 3, 4, 5] [] [(3, qp 3 0), (4, qp 4 0), (5, qp 5 0)] (W32 a1 a0) ?_))
  exact F89_j2_ok n a0 a1 a0
def F90_e : (List Thing) → PV × List Ob := fun r => (.one (vw Thing.cod r), [])
def F90_l7 (n : Nat) (a0 : (List Thing)) (a1 : Int) : Nat → (List Thing) → Int → Option (List Thing)
 | 0, _, _ => none
 | m + 1, l5, i6 =>
  if decide (i6 < ((a0).length : Int)) then
   (ix a0 i6).bind fun (x8 : Thing) =>
   if x8.ID != a1 then
    (ix a0 i6).bind fun (x9 : Thing) =>
    if ((l5).length + 1) * 120 ≤ zae ∧ (l5).length + 1 ≤ zae then
     (F90_l7 n a0 a1 m) (l5 ++ [x9]) (IntKind.wrap .i64 (i6 + 1))
    else none
   else
    (F90_l7 n a0 a1 m) l5 (IntKind.wrap .i64 (i6 + 1))
  else
   some l5
theorem F90_l7_ok (n : Nat) (a0 : (List Thing)) (a1 : Int) : ∀ (m : Nat) (l5 : (List Thing)) (i6 : Int), SimL Try.prog D (n + 8) m p90c17 [(0, .one (vw Thing.cod a0)), (1, qj a1), (5, .one (.osl 100005 0 0 (l5).length)), (6, qj i6)] (W81 l5) (F90_l7 n a0 a1 m l5 i6) (QB 0 (QT Try.prog D (n + 8) p90c23 (QF false pc90_r 0 F90_e))) := by
 intro m_l7
 induction m_l7 with
 | zero => intro l5 i6; exact SimL.zero'  rfl
 | succ m_l7 ih_l7 =>
  intro l5 i6
  refine SimL.succ ?_
  unfold F90_l7
  refine Sim.seq (.seq (.rg [(0, .one (vw Thing.cod a0)), (1, qj a1), (5, .one (.osl 100005 0 0 (l5).length)), (6, qj i6)] (W81 l5) (.ru 4 [] (.thenN (.cd _ ?_ ?_)))))
  ·refine Sim.skip (.thenN (.seq (.block (.sv 2 [] (.bn ⟨some 15, .iaddrS 11 13 14, none, []⟩ (fun x8 => [(15, .one (.eptr (Thing.cod.enc x8) 0))]) (fun x8 => []) (fun x8 hr => pe (ei (c := Thing.cod) (k := .i64) hr)) (fun x8 => ?_))))))
   refine SimI.ru 4 [] (.thenN (.cd _ ?_ ?_))
   ·refine Sim.region0 (.rv 3 [] (.bn ⟨some 23, .iaddrS 11 21 22, none, []⟩ (fun x9 => [(23, .one (.eptr (Thing.cod.enc x9) 0))]) (fun x9 => []) (fun x9 hr => pe (ei (c := Thing.cod) (k := .i64) hr)) (fun x9 => ?_)))
    refine SimI.rv 2 [] (.gu ⟨some 26, .app 100005 54 11 120 20 25, none, []⟩ [(26, .one (.osl 100005 (0 + 1) 0 ((l5 ++ [x9])).length))] (W57 l5 x9) (fun hc => pe (zcx (c := Thing.cod) (g := 0) (l := l5) (a := x9) (by kernel_rfl) (by kernel_rfl) (by kernel_rfl) (by kernel_rfl) hc)) (.ru 1 [] (.blockN (.thenN (.region0 (.ru 3 [] (.loopN (.pr [0, 1, 5, 6] [100005] [(false, 5, 0, 100005, 54, 11)] [(0, .one (vw Thing.cod a0)), (1, qj a1), (5, .one (.osl 100005 0 0 ((l5 ++ [x9])).length)), (6, qj (iw .i64 (i6 + 1)))] [(100005, some (.arr 54 Thing.cod.sz 0 ((l5 ++ [x9])).length (zaa Thing.cod (l5 ++ [x9]))))] ?_))))))))
    exact ih_l7 (l5 ++ [x9]) (iw .i64 (i6 + 1))
   ·refine Sim.skip (.blockN (.thenN (.region0 (.ru 3 [] (.loopN (.pr [0, 1, 5, 6] [100005] [(false, 5, 0, 100005, 54, 11)] [(0, .one (vw Thing.cod a0)), (1, qj a1), (5, .one (.osl 100005 0 0 (l5).length)), (6, qj (iw .i64 (i6 + 1)))] (W81 l5) ?_))))))
    exact ih_l7 l5 (iw .i64 (i6 + 1))
  ·exact Sim.exit (.thenX (.loopX (.blockX (.thenN (.su 2 [] (.ret (.fin (out_of (os := []) (zaq (zaw (c := Thing.cod) (k := 100005) (g := 0) (el := 54) (l := l5) (by kernel_rfl) (by kernel_rfl) (by kernel_rfl)) (zbe)) (by kernel_rfl) rfl (by kernel_rfl)))))))))
def F90 (n : Nat) (a0 : (List Thing)) (a1 : Int) : Option (List Thing) :=
 F90_l7 n a0 a1 (n + 8) ([] : List Thing) 0
theorem F90_ok (n : Nat) (a0 : (List Thing)) (a1 : Int) : ∀ r, F90 n a0 a1 = some r → D 90 [.one (vw Thing.cod a0), .one (li .i64 a1)] [] = some (F90_e r) := by
 refine zan (D := D) (n := n + 8) (nt := 28) (rs := pc90_r) (c := p90c26) (L := [(0, .one (vw Thing.cod a0)), (1, qj a1)]) (M := []) (k := 0) rfl rfl rfl rfl rfl rfl rfl ?_
 unfold F90
 refine Sim.su 1 [] (.su 1 [] (.seq (.su 1 [] (.block (.loop (.pr [0, 1, 5, 6] [100005] [(false, 5, 0, 100005, 54, 11)] [(0, .one (vw Thing.cod a0)), (1, qj a1), (5, .one (.osl 100005 0 0 (([] : List Thing)).length)), (6, qj 0)] [(100005, some (.arr 54 Thing.cod.sz 0 (([] : List Thing)).length (zaa Thing.cod ([] : List Thing))))] ?_))))))
 exact F90_l7_ok n a0 a1 (n + 8) ([] : List Thing) 0
def F76_e : ((List Thing) × Bool) → PV × List Ob := fun r => (.tup [.one (vw Thing.cod r.1), .one (lb r.2)], [])
def F76 (n : Nat) (a0 : (List Thing)) (a1 : Event) : Option ((List Thing) × Bool) :=
 (F87 n a0 a1.ID).bind fun (r1 : Int) =>
 (F48 n a1).bind fun (r2 : Bool) =>
 if !(r2) then
  some (a0, false)
 else
  if (decide ((0 : Int) ≤ r1)) == (a1.Kind == 1) then
   some (a0, false)
  else
   if a1.Kind == 1 then
    (F88 n a0 a1.Thing).bind fun (r3 : (List Thing)) =>
    some (r3, true)
   else
    if a1.Kind == 2 then
     (ix a0 r1).bind fun (x4 : Thing) =>
     (F89 n x4 a1.Delta).bind fun (r5 : Thing) =>
     (F88 n a0 r5).bind fun (r6 : (List Thing)) =>
     some (r6, true)
    else
     (F90 n a0 a1.ID).bind fun (r7 : (List Thing)) =>
     some (r7, true)
theorem F76_ok (n : Nat) (a0 : (List Thing)) (a1 : Event) : ∀ r, F76 n a0 a1 = some r → D 76 [.one (vw Thing.cod a0), .agg (Event.cells a1)] [] = some (F76_e r) := by
 refine zan (D := D) (n := n + 8) (nt := 46) (rs := pc76_r) (c := p76c32) (L := [(0, .one (vw Thing.cod a0)), (1, .agg (Event.cells a1))]) (M := []) (k := 0) rfl rfl rfl rfl rfl rfl rfl ?_
 unfold F76
 refine Sim.su 3 [(3, some (.cells (Event.cells a1)))] (.sv 3 [] (.cl 10 true [[(0, 11)], []] 87 [7, 9] none (fun r1 => qj r1) [.one (vw Thing.cod a0), qj a1.ID] (F87_ok _ _ _) (fun r1 => ?_)))
 refine SimI.ru 1 [] (.thenN (.seq (.sv 1 [] (.cl 12 true [[]] 48 [11] none (fun r2 => qb r2) [.agg (Event.cells a1)] (F48_ok _ _) (fun r2 => ?_)))))
 refine SimI.rv 2 [] (.sp 14 _ ?_ ?_)
 ·exact SimI.ru 7 [] (.thenN (.ct (.su 3 [] (.ret (.thenR .fn)))))
 ·refine SimI.ru 7 [] (.thenN (.cd _ ?_ ?_))
  ·exact Sim.su 3 [] (.ret (.thenR .fn))
  ·refine Sim.skip (.thenN (.seq (.su 2 [] (.block (.su 2 [] (.cd _ ?_ ?_))))))
   ·refine Sim.sv 3 [] (.cl 30 true [[(0, 11)], []] 88 [27, 29] none (fun r3 => .one (vw Thing.cod r3)) [.one (vw Thing.cod a0), .agg (Thing.cells a1.Thing)] (F88_ok _ _ _) (fun r3 => ?_))
    exact SimI.ru 2 [] (.thenN (.ret (.blockR (.thenR .fn))))
   ·refine Sim.su 2 [] (.cd _ ?_ ?_)
    ·refine Sim.sv 3 [] (.bn ⟨some 36, .iaddrS 11 34 35, none, [(34, .imm), (35, .imm)]⟩ (fun x4 => [(36, .one (.eptr (Thing.cod.enc x4) 0))]) (fun x4 => []) (fun x4 hr => pe (ei (c := Thing.cod) (k := .i64) hr)) (fun x4 => ?_))
     refine SimI.rv 3 [] (.cm 40 false [[], []] 89 [37, 39] none [(37, .imm), (39, .imm)] (F89_ok _ _ _) (fun r5 => ?_))
     refine SimI.cm 41 false [[(0, 11)], []] 88 [33, 40] none [(33, .imm), (40, .imm)] (F88_ok _ _ _) (fun r6 => ?_)
     exact SimI.ru 2 [] (.thenN (.ret (.blockR (.thenR .fn))))
    ·refine Sim.skip (.blockN (.thenN (.sv 3 [] (.cl 45 true [[(0, 11)], []] 90 [42, 44] none (fun r7 => .one (vw Thing.cod r7)) [.one (vw Thing.cod a0), qj a1.ID] (F90_ok _ _ _) (fun r7 => ?_)))))
     exact SimI.ru 2 [] (.thenN (.ret .fn))
def F61_e : ((List Thing) × Bool) → PV × List Ob := fun r => (.tup [.one (vw Thing.cod r.1), .one (lb r.2)], [])
def F61_l7 (n : Nat) (a0 : (List Thing)) (a1 : (List Event)) : Nat → (List Thing) → Int → Option ((List Thing) × Bool)
 | 0, _, _ => none
 | m + 1, l5, i6 =>
  if decide (i6 < ((a1).length : Int)) then
   (ix a1 i6).bind fun (x8 : Event) =>
   (F76 n l5 x8).bind fun (r9 : ((List Thing) × Bool)) =>
   if !(r9.2) then
    some (a0, false)
   else
    (F61_l7 n a0 a1 m) r9.1 (IntKind.wrap .i64 (i6 + 1))
  else
   some (l5, true)
theorem F61_l7_ok (n : Nat) (a0 : (List Thing)) (a1 : (List Event)) : ∀ (m : Nat) (l5 : (List Thing)) (i6 : Int), SimL Try.prog D (n + 8) m p61c23 [(0, .one (vw Thing.cod a0)), (1, .one (vw Event.cod a1)), (6, .one (vw Thing.cod l5)), (7, qj i6)] [] (F61_l7 n a0 a1 m l5 i6) (QB 0 (QT Try.prog D (n + 8) p61c29 (QF false pc61_r 0 F61_e))) := by
 intro m_l7
 induction m_l7 with
 | zero => intro l5 i6; exact SimL.zero'  rfl
 | succ m_l7 ih_l7 =>
  intro l5 i6
  refine SimL.succ ?_
  unfold F61_l7
  refine Sim.seq (.seq (.rg [(0, .one (vw Thing.cod a0)), (1, .one (vw Event.cod a1)), (6, .one (vw Thing.cod l5)), (7, qj i6)] [] (.ru 4 [] (.thenN (.cd _ ?_ ?_)))))
  ·refine Sim.skip (.thenN (.seq (.block (.sv 3 [] (.bn ⟨some 21, .iaddrS 25 19 20, none, []⟩ (fun x8 => [(21, .one (.eptr (Event.cod.enc x8) 0))]) (fun x8 => []) (fun x8 hr => pe (ei (c := Event.cod) (k := .i64) hr)) (fun x8 => ?_))))))
   refine SimI.rv 1 [] (.cl 23 true [[(0, 11)], []] 76 [18, 22] none (fun r9 => .tup [.one (vw Thing.cod r9.1), qb r9.2]) [.one (vw Thing.cod l5), .agg (Event.cells x8)] (F76_ok _ _ _) (fun r9 => ?_))
   refine SimI.ru 5 [] (.thenN (.seq (.su 2 [] (.cd _ ?_ ?_))))
   ·exact Sim.su 3 [] (.ret (.thenR (.blockR (.thenR (.loopR (.blockR (.thenR .fn)))))))
   ·refine Sim.skip (.thenN (.region0 (.ru 2 [] (.blockN (.thenN (.region0 (.ru 3 [] (.loopN (.pr [0, 1, 6, 7] [] [] [(0, .one (vw Thing.cod a0)), (1, .one (vw Event.cod a1)), (6, .one (vw Thing.cod r9.1)), (7, qj (iw .i64 (i6 + 1)))] [] ?_)))))))))
    exact ih_l7 r9.1 (iw .i64 (i6 + 1))
  ·exact Sim.exit (.thenX (.loopX (.blockX (.thenN (.su 3 [] (.ret .fn))))))
def F61 (n : Nat) (a0 : (List Thing)) (a1 : (List Event)) : Option ((List Thing) × Bool) :=
 F61_l7 n a0 a1 (n + 8) a0 0
theorem F61_ok (n : Nat) (a0 : (List Thing)) (a1 : (List Event)) : ∀ r, F61 n a0 a1 = some r → D 61 [.one (vw Thing.cod a0), .one (vw Event.cod a1)] [] = some (F61_e r) := by
 refine zan (D := D) (n := n + 8) (nt := 31) (rs := pc61_r) (c := p61c32) (L := [(0, .one (vw Thing.cod a0)), (1, .one (vw Event.cod a1))]) (M := []) (k := 0) rfl rfl rfl rfl rfl rfl rfl ?_
 unfold F61
 refine Sim.su 2 [] (.su 2 [] (.seq (.su 1 [] (.block (.loop (.pr [0, 1, 6, 7] [] [] [(0, .one (vw Thing.cod a0)), (1, .one (vw Event.cod a1)), (6, .one (vw Thing.cod a0)), (7, qj 0)] [] ?_))))))
 exact F61_l7_ok n a0 a1 (n + 8) a0 0
def F49_e : (Bool × View_vedetteref19) → PV × List Ob := fun r => (.one (lb r.1), [.cells [li .i64 r.2.Client, li .i64 r.2.Session, li .i64 r.2.N, li .i64 r.2.Start, li .i64 r.2.Beat, vw Thing.cod r.2.L, .osl 1000001 1 0 (r.2.Log).length, .osl 1000002 1 0 (r.2.Wait).length], .arr 58 Event.cod.sz 1 (r.2.Log).length (zaa Event.cod r.2.Log), .arr 32 Frame.cod.sz 1 (r.2.Wait).length (zaa Frame.cod r.2.Wait)])
def zfp (n : Nat) (i50 : Int) (r60 : (Int × View_vedetteref19)) (rec_l59 : Int → Int → Int → Int → Int → Int → (List Thing) → (List Event) → (List Frame) → Option (Bool × View_vedetteref19)) (l64 : (List Thing)) (l65 : (List Event)) : Option (Bool × View_vedetteref19) :=
  if 0 ≤ (0 : Int) ∧ (0 : Int) ≤ r60.1 ∧ r60.1 ≤ ((r60.2.Wait).length : Int) then
   if (0 + 0) + (r60.1.toNat - 0) ≤ (r60.2.Wait).length ∧ (((r60.2.Wait).drop (0 + 0)).take (r60.1.toNat - 0)).length * 64 ≤ zae ∧ (((r60.2.Wait).drop (0 + 0)).take (r60.1.toNat - 0)).length ≤ zae then
    if 0 ≤ (IntKind.wrap .i64 (r60.1 + 1) : Int) ∧ (IntKind.wrap .i64 (r60.1 + 1) : Int) ≤ ((r60.2.Wait).length : Int) ∧ ((r60.2.Wait).length : Int) ≤ ((r60.2.Wait).length : Int) then
     if (0 + (IntKind.wrap .i64 (r60.1 + 1)).toNat) + ((r60.2.Wait).length - (IntKind.wrap .i64 (r60.1 + 1)).toNat) ≤ (r60.2.Wait).length ∧ (((((r60.2.Wait).drop (0 + 0)).take (r60.1.toNat - 0))).length + (((r60.2.Wait).drop (0 + (IntKind.wrap .i64 (r60.1 + 1)).toNat)).take ((r60.2.Wait).length - (IntKind.wrap .i64 (r60.1 + 1)).toNat)).length) * 64 ≤ zae ∧ ((((r60.2.Wait).drop (0 + 0)).take (r60.1.toNat - 0))).length + (((r60.2.Wait).drop (0 + (IntKind.wrap .i64 (r60.1 + 1)).toNat)).take ((r60.2.Wait).length - (IntKind.wrap .i64 (r60.1 + 1)).toNat)).length ≤ zae then
      rec_l59 (IntKind.wrap .i64 (i50 + 1)) r60.2.Client r60.2.Session r60.2.N r60.2.Start r60.2.Beat l64 l65 ((((r60.2.Wait).drop (0 + 0)).take (r60.1.toNat - 0)) ++ ((r60.2.Wait).drop (0 + (IntKind.wrap .i64 (r60.1 + 1)).toNat)).take ((r60.2.Wait).length - (IntKind.wrap .i64 (r60.1 + 1)).toNat))
     else none
    else none
   else none
  else none
theorem F49_j66_ok (n : Nat) (i1 i50 : Int) (r60 : (Int × View_vedetteref19)) (rec_l59 : Int → Int → Int → Int → Int → Int → (List Thing) → (List Event) → (List Frame) → Option (Bool × View_vedetteref19)) (m_l59 : Nat) (ih_l59 : ∀ (i50 i51 i52 i53 i54 i55 : Int) (l56 : (List Thing)) (l57 : (List Event)) (l58 : (List Frame)), SimL Try.prog D (n + 8) m_l59 p49c50 [(0, qp 1000000 0), (3, qj i1), (5, qj i50)] (W7 i51 i52 i53 i54 i55 l56 l57 l58) (rec_l59 i50 i51 i52 i53 i54 i55 l56 l57 l58) (QB 2 (QT Try.prog D (n + 8) p49c58 (QF false pc49_r 3 F49_e)))) (l64 : (List Thing)) (l65 : (List Event)) : Sim Try.prog D (n + 8) p49c43 [(0, qp 1000000 0), (3, qj i1), (5, qj i50), (6, qj r60.1)] [(1000000, some (.cells [lj r60.2.Client, lj r60.2.Session, lj r60.2.N, lj r60.2.Start, lj r60.2.Beat, vw Thing.cod l64, .osl 1000001 1 0 (l65).length, .osl 1000002 1 0 (r60.2.Wait).length])), (1000001, some (.arr 58 Event.cod.sz 1 (l65).length (zaa Event.cod l65))), (1000002, some (.arr 32 Frame.cod.sz 1 (r60.2.Wait).length (zaa Frame.cod r60.2.Wait)))] (zfp n i50 r60 rec_l59 l64 l65) (QB 3 (QT Try.prog D (n + 8) p49c48 (QL Try.prog D (n + 8) m_l59 p49c50 (QB 2 (QT Try.prog D (n + 8) p49c58 (QF false pc49_r 3 F49_e)))))) := by
  unfold zfp
  refine Sim.rs (.rv 6 [] (.gu ⟨some 91, .slc 6 89 none (some 90), none, [(89, Hint.obj 1000002), (90, .imm)]⟩ [(91, .one (.osl 1000002 1 (0 + 0) (r60.1.toNat - 0)))] [] (fun hc => pe (eff_slcO (c := Frame.cod) (l := r60.2.Wait) (key := 1000002) (g := 1) (el := 32) (a := 0) (b := r60.1.toNat) (by kernel_rfl) (by kernel_rfl) (by kernel_rfl) (bound_some (k := .i64) (by kernel_rfl) (Int.le_trans hc.1 hc.2.1)) (by kernel_rfl) (by omega) (by omega))) (.gu ⟨some 92, .app 100092 32 6 64 (Operand.const (Value.slice none 0 0)) 91, none, [(91, Hint.obj 1000002)]⟩ [(92, .one (.osl 100092 0 0 ((((r60.2.Wait).drop (0 + 0)).take (r60.1.toNat - 0))).length))] [(100092, some (.arr 32 Frame.cod.sz 0 ((((r60.2.Wait).drop (0 + 0)).take (r60.1.toNat - 0))).length (zaa Frame.cod (((r60.2.Wait).drop (0 + 0)).take (r60.1.toNat - 0)))))] (fun hc => pe (eff_appNS (c := Frame.cod) (l := r60.2.Wait) (off := (0 + 0)) (m := (r60.1.toNat - 0)) (k2 := 1000002) (g2 := 1) (el2 := 32) (by kernel_rfl) (by kernel_rfl) (by kernel_rfl) (by kernel_rfl) (by kernel_rfl) (by kernel_rfl) hc)) (.rv 6 [] (.gu ⟨some 99, .slc 6 96 (some 98) none, none, [(96, Hint.obj 1000002), (98, .imm)]⟩ [(99, .one (.osl 1000002 1 (0 + (IntKind.wrap .i64 (r60.1 + 1)).toNat) ((r60.2.Wait).length - (IntKind.wrap .i64 (r60.1 + 1)).toNat)))] [] (fun hc => pe (eff_slcO (c := Frame.cod) (l := r60.2.Wait) (key := 1000002) (g := 1) (el := 32) (a := (IntKind.wrap .i64 (r60.1 + 1)).toNat) (b := (r60.2.Wait).length) (by kernel_rfl) (by kernel_rfl) (bound_some (k := .i64) (by kernel_rfl) hc.1) (by kernel_rfl) (by kernel_rfl) (by omega) (by omega))) (.gu ⟨some 100, .appT 1000002 32 6 64 92 99, none, [(92, Hint.obj 100092), (99, Hint.obj 1000002)]⟩ [(100, .one (.osl 1000002 (1 + 1) 0 (((((r60.2.Wait).drop (0 + 0)).take (r60.1.toNat - 0)) ++ ((r60.2.Wait).drop (0 + (IntKind.wrap .i64 (r60.1 + 1)).toNat)).take ((r60.2.Wait).length - (IntKind.wrap .i64 (r60.1 + 1)).toNat))).length))] [(1000002, some (.arr 32 Frame.cod.sz (1 + 1) (((((r60.2.Wait).drop (0 + 0)).take (r60.1.toNat - 0)) ++ ((r60.2.Wait).drop (0 + (IntKind.wrap .i64 (r60.1 + 1)).toNat)).take ((r60.2.Wait).length - (IntKind.wrap .i64 (r60.1 + 1)).toNat))).length (zaa Frame.cod ((((r60.2.Wait).drop (0 + 0)).take (r60.1.toNat - 0)) ++ ((r60.2.Wait).drop (0 + (IntKind.wrap .i64 (r60.1 + 1)).toNat)).take ((r60.2.Wait).length - (IntKind.wrap .i64 (r60.1 + 1)).toNat))))), (100092, some (.arr 32 Frame.cod.sz (0 + 1 + 1) (([] : List Frame)).length (zaa Frame.cod ([] : List Frame))))] (fun hc => pe (eff_appT (c := Frame.cod) (k := 100092) (to := 1000002) (g := 0) (g2 := 1) (off := (0 + (IntKind.wrap .i64 (r60.1 + 1)).toNat)) (m := ((r60.2.Wait).length - (IntKind.wrap .i64 (r60.1 + 1)).toNat)) (l := (((r60.2.Wait).drop (0 + 0)).take (r60.1.toNat - 0))) (l2 := r60.2.Wait) (by kernel_rfl) (by kernel_rfl) (by kernel_rfl) (by kernel_rfl) (by kernel_rfl) (by kernel_rfl) (by kernel_rfl) hc)) (.ru 3 [(1000000, some (.cells [lj r60.2.Client, lj r60.2.Session, lj r60.2.N, lj r60.2.Start, lj r60.2.Beat, vw Thing.cod l64, .osl 1000001 1 0 (l65).length, .osl 1000002 (1 + 1) 0 (((((r60.2.Wait).drop (0 + 0)).take (r60.1.toNat - 0)) ++ ((r60.2.Wait).drop (0 + (IntKind.wrap .i64 (r60.1 + 1)).toNat)).take ((r60.2.Wait).length - (IntKind.wrap .i64 (r60.1 + 1)).toNat))).length]))] (.blockN (.thenN (.region0 (.ru 3 [] (.loopN (.pr [0, 3, 5] [100092, 1000000, 1000001, 1000002] [] [(0, qp 1000000 0), (3, qj i1), (5, qj (IntKind.wrap .i64 (i50 + 1)))] [(1000000, some (.cells [lj r60.2.Client, lj r60.2.Session, lj r60.2.N, lj r60.2.Start, lj r60.2.Beat, vw Thing.cod l64, .osl 1000001 1 0 (l65).length, .osl 1000002 1 0 (((((r60.2.Wait).drop (0 + 0)).take (r60.1.toNat - 0)) ++ ((r60.2.Wait).drop (0 + (IntKind.wrap .i64 (r60.1 + 1)).toNat)).take ((r60.2.Wait).length - (IntKind.wrap .i64 (r60.1 + 1)).toNat))).length])), (1000001, some (.arr 58 Event.cod.sz 1 (l65).length (zaa Event.cod l65))), (1000002, some (.arr 32 Frame.cod.sz 1 (((((r60.2.Wait).drop (0 + 0)).take (r60.1.toNat - 0)) ++ ((r60.2.Wait).drop (0 + (IntKind.wrap .i64 (r60.1 + 1)).toNat)).take ((r60.2.Wait).length - (IntKind.wrap .i64 (r60.1 + 1)).toNat))).length (zaa Frame.cod ((((r60.2.Wait).drop (0 + 0)).take (r60.1.toNat - 0)) ++ ((r60.2.Wait).drop (0 + (IntKind.wrap .i64 (r60.1 + 1)).toNat)).take ((r60.2.Wait).length - (IntKind.wrap .i64 (r60.1 + 1)).toNat)))))] ?_)))))))))))))
  exact ih_l59 (iw .i64 (i50 + 1)) r60.2.Client r60.2.Session r60.2.N r60.2.Start r60.2.Beat l64 l65 ((((r60.2.Wait).drop (0 + 0)).take (r60.1.toNat - 0)) ++ ((r60.2.Wait).drop (0 + (iw .i64 (r60.1 + 1)).toNat)).take ((r60.2.Wait).length - (iw .i64 (r60.1 + 1)).toNat))
def zcd (n : Nat) (i1 : Int) : Nat → Int → Int → Int → Int → Int → Int → (List Thing) → (List Event) → (List Frame) → Option (Bool × View_vedetteref19)
 | 0, _, _, _, _, _, _, _, _, _ => none
 | m + 1, i50, i51, i52, i53, i54, i55, l56, l57, l58 =>
  if decide (i50 < i53) then
   (F47 n (View_vedetteref19.mk i51 i52 i53 i54 i55 l56 l57 l58) i50 i1).bind fun (r60 : (Int × View_vedetteref19)) =>
   (ix r60.2.Wait r60.1).bind fun (x61 : Frame) =>
   (F61 n r60.2.L x61.Events).bind fun (r62 : ((List Thing) × Bool)) =>
   if r62.2 then
    (ix r60.2.Wait r60.1).bind fun (x63 : Frame) =>
    if ((r60.2.Log).length + (x63.Events).length) * 264 ≤ zae ∧ (r60.2.Log).length + (x63.Events).length ≤ zae then
     zfp n i50 r60 (zcd n i1 m) r62.1 (r60.2.Log ++ x63.Events)
    else none
   else
    zfp n i50 r60 (zcd n i1 m) r60.2.L r60.2.Log
  else
   some (true, (View_vedetteref19.mk i51 i52 i53 i54 i1 l56 l57 l58))
theorem F49_l59_ok (n : Nat) (i1 : Int) : ∀ (m : Nat) (i50 i51 i52 i53 i54 i55 : Int) (l56 : (List Thing)) (l57 : (List Event)) (l58 : (List Frame)), SimL Try.prog D (n + 8) m p49c50 [(0, qp 1000000 0), (3, qj i1), (5, qj i50)] (W7 i51 i52 i53 i54 i55 l56 l57 l58) (zcd n i1 m i50 i51 i52 i53 i54 i55 l56 l57 l58) (QB 2 (QT Try.prog D (n + 8) p49c58 (QF false pc49_r 3 F49_e))) := by
 intro m_l59
 induction m_l59 with
 | zero => intro i50 i51 i52 i53 i54 i55 l56 l57 l58; exact SimL.zero'  rfl
 | succ m_l59 ih_l59 =>
  intro i50 i51 i52 i53 i54 i55 l56 l57 l58
  refine SimL.succ ?_
  unfold zcd
  refine Sim.seq (.seq (.rg [(0, qp 1000000 0), (3, qj i1), (5, qj i50)] (W7 i51 i52 i53 i54 i55 l56 l57 l58) (.ru 6 [] (.thenN (.cd _ ?_ ?_)))))
  ·refine Sim.skip (.thenN (.seq (.block (.sv 3 [] (.bn ⟨some 47, .gcall false false W19 [[], [], []] 47 [44, 45, 46], none, []⟩ (fun r60 => [(47, qj r60.1)]) (fun r60 => (W42 r60)) (fun r60 hr => pe (gq (ks := W19) (ARGS := [qp 1000000 0, qj i50, qj i1]) (F47_ok _ _ _ _ _ hr))) (fun r60 => ?_))))))
   refine SimI.ru 1 [] (.thenN (.sv 9 [] (.bindh (og := ix r60.2.Wait r60.1) ⟨some 58, .iaddrS 6 56 57, none, [(56, Hint.obj 1000002), (57, .imm)]⟩ (fun x61 => [(58, .one (.aptr 1000002 (1 + 1) ((r60.1).toNat) 0))]) (fun x61 => []) (by kernel_rfl) (fun x61 hr => pe (zer (c := Frame.cod) (l := r60.2.Wait) (g := (1 + 1)) (el := 32) (k := .i64) (n := r60.1) (by kernel_rfl) (by kernel_rfl) (by kernel_rfl) (by kernel_rfl) hr)) (fun x61 hx61 => ?_))))
   refine SimI.rv 1 [] (.se ⟨some 60, .load false 1 59, none, [(59, Hint.obj 1000002)]⟩ [(60, .one (vw Event.cod x61.Events))] [] (pe (zef (c := Frame.cod) (a := x61) (l := r60.2.Wait) (key := 1000002) (g := (1 + 1)) (el := 32) (off := 5) (i := (r60.1).toNat) (by kernel_rfl) (by kernel_rfl) (zec hx61).2.2.2 (by kernel_rfl))) (.cm 61 false [[(0, 11)], [(0, 25)]] 61 [52, 60] none [(52, .imm), (60, .imm)] (F61_ok _ _ _) (fun r62 => ?_)))
   refine SimI.ru 5 [] (.thenN (.seq (.su 1 [] (.cd _ ?_ ?_))))
   ·refine Sim.su 5 [(1000000, some (.cells [lj r60.2.Client, lj r60.2.Session, lj r60.2.N, lj r60.2.Start, lj r60.2.Beat, vw Thing.cod r62.1, .osl 1000001 (1 + 1) 0 (r60.2.Log).length, .osl 1000002 (1 + 1) 0 (r60.2.Wait).length]))] (.region0 (.rv 10 [] (.bindh (og := ix r60.2.Wait r60.1) ⟨some 79, .iaddrS 6 77 78, none, [(77, Hint.obj 1000002), (78, .imm)]⟩ (fun x63 => [(79, .one (.aptr 1000002 (1 + 1) ((r60.1).toNat) 0))]) (fun x63 => []) (by kernel_rfl) (fun x63 hr => pe (zer (c := Frame.cod) (l := r60.2.Wait) (g := (1 + 1)) (el := 32) (k := .i64) (n := r60.1) (by kernel_rfl) (by kernel_rfl) (by kernel_rfl) (by kernel_rfl) hr)) (fun x63 hx63 => ?_))))
    refine SimI.rv 1 [] (.se ⟨some 81, .load false 1 80, none, [(80, Hint.obj 1000002)]⟩ [(81, .one (vw Event.cod x63.Events))] [] (pe (zef (c := Frame.cod) (a := x63) (l := r60.2.Wait) (key := 1000002) (g := (1 + 1)) (el := 32) (off := 5) (i := (r60.1).toNat) (by kernel_rfl) (by kernel_rfl) (zec hx63).2.2.2 (by kernel_rfl))) (.gu ⟨some 82, .app 100073 58 25 264 73 81, none, [(73, Hint.obj 1000001), (81, .imm)]⟩ [(82, .one (.osl 1000001 ((1 + 1) + 1) 0 ((r60.2.Log ++ x63.Events)).length))] [(1000001, some (.arr 58 Event.cod.sz ((1 + 1) + 1) ((r60.2.Log ++ x63.Events)).length (zaa Event.cod (r60.2.Log ++ x63.Events))))] (fun hc => pe (eff_appOL (c := Event.cod) (g := (1 + 1)) (l := r60.2.Log) (m := x63.Events) (by kernel_rfl) (by kernel_rfl) (by kernel_rfl) (by kernel_rfl) hc)) (.ru 3 [(1000000, some (.cells [lj r60.2.Client, lj r60.2.Session, lj r60.2.N, lj r60.2.Start, lj r60.2.Beat, vw Thing.cod r62.1, .osl 1000001 ((1 + 1) + 1) 0 ((r60.2.Log ++ x63.Events)).length, .osl 1000002 (1 + 1) 0 (r60.2.Wait).length]))] (.thenN (.pr [0, 3, 5, 6] W19 [] [(0, qp 1000000 0), (3, qj i1), (5, qj i50), (6, qj r60.1)] [(1000000, some (.cells [lj r60.2.Client, lj r60.2.Session, lj r60.2.N, lj r60.2.Start, lj r60.2.Beat, vw Thing.cod r62.1, .osl 1000001 1 0 ((r60.2.Log ++ x63.Events)).length, .osl 1000002 1 0 (r60.2.Wait).length])), (1000001, some (.arr 58 Event.cod.sz 1 ((r60.2.Log ++ x63.Events)).length (zaa Event.cod (r60.2.Log ++ x63.Events)))), (1000002, some (.arr 32 Frame.cod.sz 1 (r60.2.Wait).length (zaa Frame.cod r60.2.Wait)))] ?_)))))
    exact F49_j66_ok n i1 i50 r60 (zcd n i1 m_l59) m_l59 ih_l59 r62.1 (r60.2.Log ++ x63.Events)
   ·refine Sim.skip (.thenN (.pr [0, 3, 5, 6] W19 [] [(0, qp 1000000 0), (3, qj i1), (5, qj i50), (6, qj r60.1)] (W64 r60) ?_))
    exact F49_j66_ok n i1 i50 r60 (zcd n i1 m_l59) m_l59 ih_l59 r60.2.L r60.2.Log
  ·exact Sim.exit (.thenX (.loopX (.blockX (.thenN (.su 5 [(1000000, some (.cells (W45 i51 i52 i53 i54 i1 l56 l57 l58)))] (.su 1 [] (.ret .fn)))))))
def F49_l30 (n : Nat) (i1 : Int) : Nat → Int → Int → Int → Int → Int → Int → (List Thing) → (List Event) → (List Frame) → Option (Bool × View_vedetteref19)
 | 0, _, _, _, _, _, _, _, _, _ => none
 | m + 1, i21, i22, i23, i24, i25, i26, l27, l28, l29 =>
  if decide (i21 < i24) then
   (F47 n (View_vedetteref19.mk i22 i23 i24 i25 i26 l27 l28 l29) i21 i1).bind fun (r31 : (Int × View_vedetteref19)) =>
   if decide (r31.1 < 0) then
    some (false, r31.2)
   else
    (F49_l30 n i1 m) (IntKind.wrap .i64 (i21 + 1)) r31.2.Client r31.2.Session r31.2.N r31.2.Start r31.2.Beat r31.2.L r31.2.Log r31.2.Wait
  else
   zcd n i1 (n + 8) 0 i22 i23 i24 i25 i26 l27 l28 l29
theorem F49_l30_ok (n : Nat) (i1 : Int) : ∀ (m : Nat) (i21 i22 i23 i24 i25 i26 : Int) (l27 : (List Thing)) (l28 : (List Event)) (l29 : (List Frame)), SimL Try.prog D (n + 8) m p49c24 [(0, qp 1000000 0), (3, qj i1), (4, qj i21)] (W7 i22 i23 i24 i25 i26 l27 l28 l29) (F49_l30 n i1 m i21 i22 i23 i24 i25 i26 l27 l28 l29) (QB 0 (QT Try.prog D (n + 8) p49c59 (QF false pc49_r 3 F49_e))) := by
 intro m_l30
 induction m_l30 with
 | zero => intro i21 i22 i23 i24 i25 i26 l27 l28 l29; exact SimL.zero'  rfl
 | succ m_l30 ih_l30 =>
  intro i21 i22 i23 i24 i25 i26 l27 l28 l29
  refine SimL.succ ?_
  unfold F49_l30
  refine Sim.seq (.seq (.rg [(0, qp 1000000 0), (3, qj i1), (4, qj i21)] (W7 i22 i23 i24 i25 i26 l27 l28 l29) (.ru 6 [] (.thenN (.cd _ ?_ ?_)))))
  ·refine Sim.skip (.thenN (.seq (.block (.sv 3 [] (.bn ⟨some 34, .gcall false false W19 [[], [], []] 47 [31, 32, 33], none, []⟩ (fun r31 => [(34, qj r31.1)]) (fun r31 => (W42 r31)) (fun r31 hr => pe (gq (ks := W19) (ARGS := [qp 1000000 0, qj i21, qj i1]) (F47_ok _ _ _ _ _ hr))) (fun r31 => ?_))))))
   refine SimI.ru 1 [] (.thenN (.cd _ ?_ ?_))
   ·exact Sim.su 1 [] (.ret (.blockR (.thenR (.loopR (.blockR (.thenR .fn))))))
   ·refine Sim.skip (.blockN (.thenN (.region0 (.ru 3 [] (.loopN (.pr [0, 3, 4] W19 [] [(0, qp 1000000 0), (3, qj i1), (4, qj (iw .i64 (i21 + 1)))] (W64 r31) ?_))))))
    exact ih_l30 (iw .i64 (i21 + 1)) r31.2.Client r31.2.Session r31.2.N r31.2.Start r31.2.Beat r31.2.L r31.2.Log r31.2.Wait
  ·refine Sim.exit (.thenX (.loopX (.blockX (.thenN (.seq (.su 1 [] (.block (.loop (.pr [0, 3, 5] [100092, 1000000, 1000001, 1000002] [] [(0, qp 1000000 0), (3, qj i1), (5, qj 0)] (W7 i22 i23 i24 i25 i26 l27 l28 l29) ?_)))))))))
   exact F49_l59_ok n i1 (n + 8) 0 i22 i23 i24 i25 i26 l27 l28 l29
def F49_j2 (n : Nat) (a0 : View_vedetteref19) (i1 : Int) : Option (Bool × View_vedetteref19) :=
  F49_l30 n i1 (n + 8) 0 a0.Client a0.Session a0.N a0.Start a0.Beat a0.L a0.Log a0.Wait
theorem F49_j2_ok (n : Nat) (a0 : View_vedetteref19) (i1 : Int) : Sim Try.prog D (n + 8) p49c60 [(0, qp 1000000 0), (3, qj i1)] (W47 a0) (F49_j2 n a0 i1) (QF false pc49_r 3 F49_e) := by
  unfold F49_j2
  refine Sim.seq (.seq (.rg [(0, qp 1000000 0), (3, qj i1)] [(1000000, some (.cells (w6 a0))), (1000001, some (.arr 58 Event.cod.sz 1 (a0.Log).length (zaa Event.cod a0.Log))), (1000002, some (.arr 32 Frame.cod.sz 1 (a0.Wait).length (zaa Frame.cod a0.Wait)))] (.ru 1 [] (.thenN (.block (.loop (.pr [0, 3, 4] W19 [] [(0, qp 1000000 0), (3, qj i1), (4, qj 0)] [(1000000, some (.cells (w6 a0))), (1000001, some (.arr 58 Event.cod.sz 1 (a0.Log).length (zaa Event.cod a0.Log))), (1000002, some (.arr 32 Frame.cod.sz 1 (a0.Wait).length (zaa Frame.cod a0.Wait)))] ?_)))))))
  exact F49_l30_ok n i1 (n + 8) 0 a0.Client a0.Session a0.N a0.Start a0.Beat a0.L a0.Log a0.Wait
def F49 (n : Nat) (a0 : View_vedetteref19) : Option (Bool × View_vedetteref19) :=
 if decide (a0.Beat < 0) then
  F49_j2 n a0 a0.Start
 else
  F49_j2 n a0 (IntKind.wrap .i64 (a0.Beat + 1))
theorem F49_ok (n : Nat) (a0 : View_vedetteref19) : ∀ r, F49 n a0 = some r → D 49 [.one (.ptr 1000000 0)] [.cells [li .i64 a0.Client, li .i64 a0.Session, li .i64 a0.N, li .i64 a0.Start, li .i64 a0.Beat, vw Thing.cod a0.L, .osl 1000001 0 0 (a0.Log).length, .osl 1000002 0 0 (a0.Wait).length], .arr 58 Event.cod.sz 0 (a0.Log).length (zaa Event.cod a0.Log), .arr 32 Frame.cod.sz 0 (a0.Wait).length (zaa Frame.cod a0.Wait)] = some (F49_e r) := by
 refine zan (D := D) (n := n + 8) (nt := 107) (rs := pc49_r) (c := p49c63) (L := [(0, qp 1000000 0)]) (M := [(1000000, some (.cells (w4 a0))), (1000001, some (.arr 58 Event.cod.sz 0 (a0.Log).length (zaa Event.cod a0.Log))), (1000002, some (.arr 32 Frame.cod.sz 0 (a0.Wait).length (zaa Frame.cod a0.Wait)))]) (k := 3) rfl rfl rfl rfl rfl rfl rfl ?_
 unfold F49
 refine Sim.su 1 [] (.su 6 [] (.seq (.su 5 [] (.cd _ ?_ ?_))))
 ·refine Sim.region0 (.ru 5 [] (.thenN (.pr [0, 3] W19 [] [(0, qp 1000000 0), (3, qj a0.Start)] [(1000000, some (.cells (w6 a0))), (1000001, some (.arr 58 Event.cod.sz 1 (a0.Log).length (zaa Event.cod a0.Log))), (1000002, some (.arr 32 Frame.cod.sz 1 (a0.Wait).length (zaa Frame.cod a0.Wait)))] ?_)))
  exact F49_j2_ok n a0 a0.Start
 ·refine Sim.skip (.thenN (.pr [0, 3] W19 [] [(0, qp 1000000 0), (3, qj (iw .i64 (a0.Beat + 1)))] [(1000000, some (.cells (w6 a0))), (1000001, some (.arr 58 Event.cod.sz 1 (a0.Log).length (zaa Event.cod a0.Log))), (1000002, some (.arr 32 Frame.cod.sz 1 (a0.Wait).length (zaa Frame.cod a0.Wait)))] ?_))
  exact F49_j2_ok n a0 (iw .i64 (a0.Beat + 1))
def F16_e : (Bool × View_vedetteref19) → PV × List Ob := fun r => (.one (lb r.1), [.cells [li .i64 r.2.Client, li .i64 r.2.Session, li .i64 r.2.N, li .i64 r.2.Start, li .i64 r.2.Beat, vw Thing.cod r.2.L, .osl 1000001 1 0 (r.2.Log).length, .osl 1000002 1 0 (r.2.Wait).length], .arr 58 Event.cod.sz 1 (r.2.Log).length (zaa Event.cod r.2.Log), .arr 32 Frame.cod.sz 1 (r.2.Wait).length (zaa Frame.cod r.2.Wait)])
def zfq (n : Nat) : Nat → Int → Int → Int → Int → Int → (List Thing) → (List Event) → (List Frame) → Option (Bool × View_vedetteref19)
 | 0, _, _, _, _, _, _, _, _ => none
 | m + 1, i34, i35, i36, i37, i38, l39, l40, l41 =>
  (F49 n (View_vedetteref19.mk i34 i35 i36 i37 i38 l39 l40 l41)).bind fun (r43 : (Bool × View_vedetteref19)) =>
  if r43.1 then
   (zfq n m) r43.2.Client r43.2.Session r43.2.N r43.2.Start r43.2.Beat r43.2.L r43.2.Log r43.2.Wait
  else
   some (true, r43.2)
theorem F16_l42_ok (n : Nat) : ∀ (m : Nat) (i34 i35 i36 i37 i38 : Int) (l39 : (List Thing)) (l40 : (List Event)) (l41 : (List Frame)), SimL Try.prog D (n + 8) m p16c38 [(0, qp 1000000 0)] (W7 i34 i35 i36 i37 i38 l39 l40 l41) (zfq n m i34 i35 i36 i37 i38 l39 l40 l41) (QB 2 (QT Try.prog D (n + 8) p16c43 (QF false pc16_r 3 F16_e))) := by
 intro m_l42
 induction m_l42 with
 | zero => intro i34 i35 i36 i37 i38 l39 l40 l41; exact SimL.zero'  rfl
 | succ m_l42 ih_l42 =>
  intro i34 i35 i36 i37 i38 l39 l40 l41
  refine SimL.succ ?_
  unfold zfq
  refine Sim.seq (.seq (.rg [(0, qp 1000000 0)] (W7 i34 i35 i36 i37 i38 l39 l40 l41) (.rv 1 [] (.bn ⟨some 125, .gcall false false W19 [[]] 49 [124], none, []⟩ (fun r43 => [(125, qb r43.1)]) (fun r43 => [(1000000, some (.cells [lj r43.2.Client, lj r43.2.Session, lj r43.2.N, lj r43.2.Start, lj r43.2.Beat, vw Thing.cod r43.2.L, .osl 1000001 (1 + 1) 0 (r43.2.Log).length, .osl 1000002 (1 + 1) 0 (r43.2.Wait).length])), (1000001, some (.arr 58 Event.cod.sz (1 + 1) (r43.2.Log).length (zaa Event.cod r43.2.Log))), (1000002, some (.arr 32 Frame.cod.sz (1 + 1) (r43.2.Wait).length (zaa Frame.cod r43.2.Wait)))]) (fun r43 hr => pe (gq (ks := W19) (ARGS := [qp 1000000 0]) (F49_ok _ _ _ hr))) (fun r43 => ?_)))))
  refine SimI.dn (.thenN (.cd _ ?_ ?_))
  ·refine Sim.skip (.thenN (.block (.exit (.blockX (.loopN (.pr [0] W55 [] [(0, qp 1000000 0)] [(1000000, some (.cells [lj r43.2.Client, lj r43.2.Session, lj r43.2.N, lj r43.2.Start, lj r43.2.Beat, vw Thing.cod r43.2.L, .osl 1000001 1 0 (r43.2.Log).length, .osl 1000002 1 0 (r43.2.Wait).length])), (1000001, some (.arr 58 Event.cod.sz 1 (r43.2.Log).length (zaa Event.cod r43.2.Log))), (1000002, some (.arr 32 Frame.cod.sz 1 (r43.2.Wait).length (zaa Frame.cod r43.2.Wait)))] ?_))))))
   exact ih_l42 r43.2.Client r43.2.Session r43.2.N r43.2.Start r43.2.Beat r43.2.L r43.2.Log r43.2.Wait
  ·exact Sim.exit (.thenX (.loopX (.blockX (.thenN (.su 1 [] (.ret .fn))))))
def F16_l15 (n : Nat) (a1 : Frame) (i3 i4 i5 i6 i7 : Int) (l8 : (List Thing)) (l9 : (List Event)) (l10 : (List Frame)) : Nat → Int → Option (Bool × View_vedetteref19)
 | 0, _ => none
 | m + 1, i14 =>
  if decide (i14 < ((a1.Events).length : Int)) then
   (ix a1.Events i14).bind fun (x16 : Event) =>
   (F48 n x16).bind fun (r17 : Bool) =>
   if !(r17) then
    some (false, (View_vedetteref19.mk i3 i4 i5 i6 i7 l8 l9 l10))
   else
    (F16_l15 n a1 i3 i4 i5 i6 i7 l8 l9 l10 m) (IntKind.wrap .i64 (i14 + 1))
  else
   if ((l10).length + 1) * 64 ≤ zae ∧ (l10).length + 1 ≤ zae then
    zfq n (n + 8) i3 i4 i5 a1.Start i7 l8 l9 (l10 ++ [a1])
   else none
theorem F16_l15_ok (n : Nat) (a1 : Frame) (i3 i4 i5 i6 i7 : Int) (l8 : (List Thing)) (l9 : (List Event)) (l10 : (List Frame)) : ∀ (m : Nat) (i14 : Int), SimL Try.prog D (n + 8) m p16c25 [(0, qp 1000000 0), (3, qp 3 0), (5, qj i14)] (W60 a1 i3 i4 i5 i6 i7 l8 l9 l10) (F16_l15 n a1 i3 i4 i5 i6 i7 l8 l9 l10 m i14) (QB 0 (QT Try.prog D (n + 8) p16c46 (QF false pc16_r 3 F16_e))) := by
 intro m_l15
 induction m_l15 with
 | zero => intro i14; exact SimL.zero'  rfl
 | succ m_l15 ih_l15 =>
  intro i14
  refine SimL.succ ?_
  unfold F16_l15
  refine Sim.seq (.seq (.rg [(0, qp 1000000 0), (3, qp 3 0), (5, qj i14)] [(3, some (.cells (w0 a1))), (1000000, some (.cells (W45 i3 i4 i5 i6 i7 l8 l9 l10))), (1000001, some (.arr 58 Event.cod.sz 1 (l9).length (zaa Event.cod l9))), (1000002, some (.arr 32 Frame.cod.sz 1 (l10).length (zaa Frame.cod l10)))] (.ru 5 [] (.thenN (.cd _ ?_ ?_)))))
  ·refine Sim.skip (.thenN (.seq (.block (.sv 3 [] (.bn ⟨some 105, .iaddrS 25 103 104, none, []⟩ (fun x16 => [(105, .one (.eptr (Event.cod.enc x16) 0))]) (fun x16 => []) (fun x16 hr => pe (ei (c := Event.cod) (k := .i64) hr)) (fun x16 => ?_))))))
   refine SimI.rv 1 [] (.cl 107 true [[]] 48 [106] none (fun r17 => qb r17) [.agg (Event.cells x16)] (F48_ok _ _) (fun r17 => ?_))
   refine SimI.ru 1 [] (.thenN (.cd _ ?_ ?_))
   ·exact Sim.su 1 [] (.ret (.blockR (.thenR (.loopR (.blockR (.thenR .fn))))))
   ·refine Sim.skip (.blockN (.thenN (.region0 (.ru 3 [] (.loopN (.pr [0, 3, 5] W55 [] [(0, qp 1000000 0), (3, qp 3 0), (5, qj (iw .i64 (i14 + 1)))] [(3, some (.cells (w0 a1))), (1000000, some (.cells (W45 i3 i4 i5 i6 i7 l8 l9 l10))), (1000001, some (.arr 58 Event.cod.sz 1 (l9).length (zaa Event.cod l9))), (1000002, some (.arr 32 Frame.cod.sz 1 (l10).length (zaa Frame.cod l10)))] ?_))))))
    exact ih_l15 (iw .i64 (i14 + 1))
  ·refine Sim.exit (.thenX (.loopX (.blockX (.thenN (.su 6 [(1000000, some (.cells [lj i3, lj i4, lj i5, lj a1.Start, lj i7, vw Thing.cod l8, .osl 1000001 1 0 (l9).length, .osl 1000002 1 0 (l10).length]))] (.sv 7 [] (.gu ⟨some 121, .app 100118 32 6 64 118 120, none, [(118, Hint.obj 1000002), (120, .imm)]⟩ [(121, .one (.osl 1000002 (1 + 1) 0 ((l10 ++ [a1])).length))] [(1000002, some (.arr 32 Frame.cod.sz (1 + 1) ((l10 ++ [a1])).length (zaa Frame.cod (l10 ++ [a1]))))] (fun hc => pe (zcx (c := Frame.cod) (g := 1) (l := l10) (a := a1) (by kernel_rfl) (by kernel_rfl) (by kernel_rfl) (by kernel_rfl) hc)) (.ru 3 [(1000000, some (.cells [lj i3, lj i4, lj i5, lj a1.Start, lj i7, vw Thing.cod l8, .osl 1000001 1 0 (l9).length, .osl 1000002 (1 + 1) 0 ((l10 ++ [a1])).length]))] (.thenN (.seq (.block (.loop (.pr [0] W55 [] [(0, qp 1000000 0)] [(1000000, some (.cells [lj i3, lj i4, lj i5, lj a1.Start, lj i7, vw Thing.cod l8, .osl 1000001 1 0 (l9).length, .osl 1000002 1 0 ((l10 ++ [a1])).length])), (1000001, some (.arr 58 Event.cod.sz 1 (l9).length (zaa Event.cod l9))), (1000002, some (.arr 32 Frame.cod.sz 1 ((l10 ++ [a1])).length (zaa Frame.cod (l10 ++ [a1]))))] ?_)))))))))))))
   exact F16_l42_ok n (n + 8) i3 i4 i5 a1.Start i7 l8 l9 (l10 ++ [a1])
def zfr (n : Nat) (a1 : Frame) (i3 i4 i5 i6 i7 : Int) (l8 : (List Thing)) (l9 : (List Event)) (l10 : (List Frame)) : Option (Bool × View_vedetteref19) :=
  F16_l15 n a1 i3 i4 i5 i6 i7 l8 l9 l10 (n + 8) 0
theorem F16_j11_ok (n : Nat) (a1 : Frame) (i3 i4 i5 i6 i7 : Int) (l8 : (List Thing)) (l9 : (List Event)) (l10 : (List Frame)) : Sim Try.prog D (n + 8) p16c47 W61 (W60 a1 i3 i4 i5 i6 i7 l8 l9 l10) (zfr n a1 i3 i4 i5 i6 i7 l8 l9 l10) (QF false pc16_r 3 F16_e) := by
  unfold zfr
  refine Sim.seq (.seq (.rg W61 [(3, some (.cells (w0 a1))), (1000000, some (.cells (W45 i3 i4 i5 i6 i7 l8 l9 l10))), (1000001, some (.arr 58 Event.cod.sz 1 (l9).length (zaa Event.cod l9))), (1000002, some (.arr 32 Frame.cod.sz 1 (l10).length (zaa Frame.cod l10)))] (.ru 1 [] (.thenN (.block (.loop (.pr [0, 3, 5] W55 [] [(0, qp 1000000 0), (3, qp 3 0), (5, qj 0)] [(3, some (.cells (w0 a1))), (1000000, some (.cells (W45 i3 i4 i5 i6 i7 l8 l9 l10))), (1000001, some (.arr 58 Event.cod.sz 1 (l9).length (zaa Event.cod l9))), (1000002, some (.arr 32 Frame.cod.sz 1 (l10).length (zaa Frame.cod l10)))] ?_)))))))
  exact F16_l15_ok n a1 i3 i4 i5 i6 i7 l8 l9 l10 (n + 8) 0
def F16 (n : Nat) (a0 : View_vedetteref19) (a1 : Frame) : Option (Bool × View_vedetteref19) :=
 if a1.Client != a0.Client then
  some (false, a0)
 else
  if a1.Session != a0.Session then
   some (false, a0)
  else
   if decide (a1.From < 0) then
    some (false, a0)
   else
    if decide (a0.N ≤ a1.From) then
     some (false, a0)
    else
     if decide (a1.Start < 0) then
      some (false, a0)
     else
      if decide (a1.Beat < a1.Start) then
       some (false, a0)
      else
       if decide ((0 : Int) ≤ a0.Start) then
        if a1.Start != a0.Start then
         some (false, a0)
        else
         if decide (a1.Beat ≤ a0.Beat) then
          some (false, a0)
         else
          if decide (imax a1.Start a0.Beat < IntKind.wrap .i64 (a1.Beat - 36)) then
           some (false, a0)
          else
           (F47 n a0 a1.From a1.Beat).bind fun (r1 : (Int × View_vedetteref19)) =>
           if decide ((0 : Int) ≤ r1.1) then
            some (false, r1.2)
           else
            zfr n a1 r1.2.Client r1.2.Session r1.2.N r1.2.Start r1.2.Beat r1.2.L r1.2.Log r1.2.Wait
       else
        if decide (a1.Beat ≤ a0.Beat) then
         some (false, a0)
        else
         if decide (imax a1.Start a0.Beat < IntKind.wrap .i64 (a1.Beat - 36)) then
          some (false, a0)
         else
          (F47 n a0 a1.From a1.Beat).bind fun (r2 : (Int × View_vedetteref19)) =>
          if decide ((0 : Int) ≤ r2.1) then
           some (false, r2.2)
          else
           zfr n a1 r2.2.Client r2.2.Session r2.2.N r2.2.Start r2.2.Beat r2.2.L r2.2.Log r2.2.Wait
theorem F16_ok (n : Nat) (a0 : View_vedetteref19) (a1 : Frame) : ∀ r, F16 n a0 a1 = some r → D 16 [.one (.ptr 1000000 0), .agg [li .i64 a1.From, li .i64 a1.Client, li .i64 a1.Session, li .i64 a1.Start, li .i64 a1.Beat, vw Event.cod a1.Events]] [.cells [li .i64 a0.Client, li .i64 a0.Session, li .i64 a0.N, li .i64 a0.Start, li .i64 a0.Beat, vw Thing.cod a0.L, .osl 1000001 0 0 (a0.Log).length, .osl 1000002 0 0 (a0.Wait).length], .arr 58 Event.cod.sz 0 (a0.Log).length (zaa Event.cod a0.Log), .arr 32 Frame.cod.sz 0 (a0.Wait).length (zaa Frame.cod a0.Wait)] = some (F16_e r) := by
 refine zan (D := D) (n := n + 8) (nt := 126) (rs := pc16_r) (c := p16c49) (L := [(0, qp 1000000 0), (1, .agg (w0 a1))]) (M := [(1000000, some (.cells (w4 a0))), (1000001, some (.arr 58 Event.cod.sz 0 (a0.Log).length (zaa Event.cod a0.Log))), (1000002, some (.arr 32 Frame.cod.sz 0 (a0.Wait).length (zaa Frame.cod a0.Wait)))]) (k := 3) rfl rfl rfl rfl rfl rfl rfl ?_
 unfold F16
 refine Sim.su 2 [(3, some (.cells (w0 a1)))] (.seq (.sv 8 [] (.sp 13 _ ?_ ?_)))
 ·exact SimI.ru 81 [] (.thenN (.ct (.su 1 [] (.ret (.thenR .fn)))))
 ·refine SimI.rv 9 [] (.sp 22 _ ?_ ?_)
  ·exact SimI.ru 72 [] (.thenN (.ct (.su 1 [] (.ret (.thenR .fn)))))
  ·refine SimI.rv 5 [] (.sp 27 _ ?_ ?_)
   ·exact SimI.ru 67 [] (.thenN (.ct (.su 1 [] (.ret (.thenR .fn)))))
   ·refine SimI.rv 9 [] (.sp 36 _ ?_ ?_)
    ·exact SimI.ru 58 [] (.thenN (.ct (.su 1 [] (.ret (.thenR .fn)))))
    ·refine SimI.rv 5 [] (.sp 41 _ ?_ ?_)
     ·exact SimI.ru 53 [] (.thenN (.ct (.su 1 [] (.ret (.thenR .fn)))))
     ·refine SimI.rv 7 [] (.sp 48 _ ?_ ?_)
      ·exact SimI.ru 46 [] (.thenN (.ct (.su 1 [] (.ret (.thenR .fn)))))
      ·refine SimI.rv 6 [] (.sp 54 _ ?_ ?_)
       ·refine SimI.rv 10 [] (.sp 64 _ ?_ ?_)
        ·exact SimI.ru 30 [] (.thenN (.ct (.su 1 [] (.ret (.thenR .fn)))))
        ·refine SimI.rv 9 [] (.sp 73 _ ?_ ?_)
         ·exact SimI.ru 21 [] (.thenN (.ct (.su 1 [] (.ret (.thenR .fn)))))
         ·refine SimI.rv 13 [] (.sp 86 _ ?_ ?_)
          ·exact SimI.ru 8 [] (.thenN (.ct (.su 1 [] (.ret (.thenR .fn)))))
          ·refine SimI.rn 5 (w34 a1) [] (.bn ⟨some 92, .gcall false false W19 [[], [], []] 47 [87, 89, 91], some (86, false), [(87, .at_ 1000000 0), (89, .imm), (91, .imm)]⟩ (fun r1 => [(92, qj r1.1)]) (fun r1 => (W43 r1)) (fun r1 hr => pe (gq (ks := W19) (ARGS := [qp 1000000 0, qj a1.From, qj a1.Beat]) (F47_ok _ _ _ _ _ hr))) (fun r1 => ?_))
           refine SimI.ru 2 [] (.thenN (.cd _ ?_ ?_))
           ·exact Sim.su 1 [] (.ret (.thenR .fn))
           ·refine Sim.skip (.thenN (.pr [0, 3] W55 [] W61 [(3, some (.cells (w0 a1))), (1000000, some (.cells (W29 r1))), (1000001, some (.arr 58 Event.cod.sz 1 (r1.2.Log).length (zaa Event.cod r1.2.Log))), (1000002, some (.arr 32 Frame.cod.sz 1 (r1.2.Wait).length (zaa Frame.cod r1.2.Wait)))] ?_))
            exact F16_j11_ok n a1 r1.2.Client r1.2.Session r1.2.N r1.2.Start r1.2.Beat r1.2.L r1.2.Log r1.2.Wait
       ·refine SimI.rv 19 [] (.sp 73 _ ?_ ?_)
        ·exact SimI.ru 21 [] (.thenN (.ct (.su 1 [] (.ret (.thenR .fn)))))
        ·refine SimI.rv 13 [] (.sp 86 _ ?_ ?_)
         ·exact SimI.ru 8 [] (.thenN (.ct (.su 1 [] (.ret (.thenR .fn)))))
         ·refine SimI.rn 5 (w34 a1) [] (.bn ⟨some 92, .gcall false false W19 [[], [], []] 47 [87, 89, 91], some (86, false), [(87, .at_ 1000000 0), (89, .imm), (91, .imm)]⟩ (fun r2 => [(92, qj r2.1)]) (fun r2 => (W43 r2)) (fun r2 hr => pe (gq (ks := W19) (ARGS := [qp 1000000 0, qj a1.From, qj a1.Beat]) (F47_ok _ _ _ _ _ hr))) (fun r2 => ?_))
          refine SimI.ru 2 [] (.thenN (.cd _ ?_ ?_))
          ·exact Sim.su 1 [] (.ret (.thenR .fn))
          ·refine Sim.skip (.thenN (.pr [0, 3] W55 [] W61 [(3, some (.cells (w0 a1))), (1000000, some (.cells (W29 r2))), (1000001, some (.arr 58 Event.cod.sz 1 (r2.2.Log).length (zaa Event.cod r2.2.Log))), (1000002, some (.arr 32 Frame.cod.sz 1 (r2.2.Wait).length (zaa Frame.cod r2.2.Wait)))] ?_))
           exact F16_j11_ok n a1 r2.2.Client r2.2.Session r2.2.N r2.2.Start r2.2.Beat r2.2.L r2.2.Log r2.2.Wait
def F36_e : (Int × Client_vedetteref23) → PV × List Ob := fun r => (.one (li .i64 r.1), [.cells (li .i64 r.2.Me :: li .i64 r.2.N :: li .i64 r.2.Session :: li .i64 r.2.Seq :: lb r.2.Busy :: zad r.2.Ask [li .i64 r.2.E, li .i64 r.2.ID, .ptr 1000001 0]), .cells [li .i64 r.2.V.Client, li .i64 r.2.V.Session, li .i64 r.2.V.N, li .i64 r.2.V.Start, li .i64 r.2.V.Beat, vw Thing.cod r.2.V.L, .osl 1000002 1 0 (r.2.V.Log).length, .osl 1000003 1 0 (r.2.V.Wait).length], .arr 58 Event.cod.sz 1 (r.2.V.Log).length (zaa Event.cod r.2.V.Log), .arr 32 Frame.cod.sz 1 (r.2.V.Wait).length (zaa Frame.cod r.2.V.Wait)])
def F36 (n : Nat) (a0 : Client_vedetteref23) (a1 : Packet) : Option (Int × Client_vedetteref23) :=
 if a1.To != (IntKind.wrap .i64 (100 + a0.Me)) then
  some (20, a0)
 else
  if a1.Kind == 2 then
   if a0.Busy then
    if a1.Session == a0.Session then
     if a1.Seq == a0.Seq then
      if a1.From == a0.Ask.To then
       some (0, (Client_vedetteref23.mk a0.Me a0.N a0.Session a0.Seq false a0.Ask a1.E a1.ID a0.V))
      else
       some (0, a0)
     else
      some (0, a0)
    else
     some (0, a0)
   else
    some (0, a0)
  else
   if a1.Kind == 4 then
    (F16 n a0.V a1.F).bind fun (r1 : (Bool × View_vedetteref19)) =>
    some (0, (Client_vedetteref23.mk a0.Me a0.N a0.Session a0.Seq a0.Busy a0.Ask a0.E a0.ID r1.2))
   else
    some (11, a0)
theorem F36_ok (n : Nat) (a0 : Client_vedetteref23) (a1 : Packet) : ∀ r, F36 n a0 a1 = some r → D 36 [.one (.ptr 1000000 0), .agg (zad a1 [])] [.cells (li .i64 a0.Me :: li .i64 a0.N :: li .i64 a0.Session :: li .i64 a0.Seq :: lb a0.Busy :: zad a0.Ask [li .i64 a0.E, li .i64 a0.ID, .ptr 1000001 0]), .cells [li .i64 a0.V.Client, li .i64 a0.V.Session, li .i64 a0.V.N, li .i64 a0.V.Start, li .i64 a0.V.Beat, vw Thing.cod a0.V.L, .osl 1000002 0 0 (a0.V.Log).length, .osl 1000003 0 0 (a0.V.Wait).length], .arr 58 Event.cod.sz 0 (a0.V.Log).length (zaa Event.cod a0.V.Log), .arr 32 Frame.cod.sz 0 (a0.V.Wait).length (zaa Frame.cod a0.V.Wait)] = some (F36_e r) := by
 refine zan (D := D) (n := n + 8) (nt := 74) (rs := pc36_r) (c := p36c36) (L := [(0, qp 1000000 0), (1, .agg (zad a1 []))]) (M := [(1000000, some (.cells (lj a0.Me :: lj a0.N :: lj a0.Session :: lj a0.Seq :: lb a0.Busy :: zad a0.Ask (W46 a0)))), (1000001, some (.cells (w11 a0))), (1000002, some (.arr 58 Event.cod.sz 0 (a0.V.Log).length (zaa Event.cod a0.V.Log))), (1000003, some (.arr 32 Frame.cod.sz 0 (a0.V.Wait).length (zaa Frame.cod a0.V.Wait)))]) (k := 4) rfl rfl rfl rfl rfl rfl rfl ?_
 unfold F36
 refine Sim.su 2 [(3, some (.cells (zad a1 [])))] (.seq (.block (.su 9 [] (.cd _ ?_ ?_))))
 ·exact Sim.su 1 [] (.ret (.blockR (.thenR .fn)))
 ·refine Sim.su 4 [] (.cd _ ?_ ?_)
  ·refine Sim.seq (.sv 5 [] (.sp 22 _ ?_ ?_))
   ·refine SimI.rv 9 [] (.sp 31 _ ?_ ?_)
    ·refine SimI.rv 9 [] (.sp 40 _ ?_ ?_)
     ·refine SimI.ru 9 [] (.thenN (.cd _ ?_ ?_))
      ·exact Sim.su 4 [(1000000, some (.cells (lj a0.Me :: lj a0.N :: lj a0.Session :: lj a0.Seq :: lb false :: zad a0.Ask (W46 a0))))] (.region0 (.ru 12 [(1000000, some (.cells (lj a0.Me :: lj a0.N :: lj a0.Session :: lj a0.Seq :: lb false :: zad a0.Ask [lj a1.E, lj a1.ID, .ptr 1000001 0]))), (1000000, some (.cells (lj a0.Me :: lj a0.N :: lj a0.Session :: lj a0.Seq :: lb false :: zad a0.Ask [lj a1.E, lj a0.ID, .ptr 1000001 0])))] (.thenN (.su 1 [] (.ret (.blockR (.thenR .fn)))))))
      ·exact Sim.skip (.thenN (.su 1 [] (.ret (.blockR (.thenR .fn)))))
     ·exact SimI.ru 9 [] (.thenN (.cf (.skip (.thenN (.su 1 [] (.ret (.blockR (.thenR .fn))))))))
    ·exact SimI.ru 18 [] (.thenN (.cf (.skip (.thenN (.su 1 [] (.ret (.blockR (.thenR .fn))))))))
   ·exact SimI.ru 27 [] (.thenN (.cf (.skip (.thenN (.su 1 [] (.ret (.blockR (.thenR .fn))))))))
  ·refine Sim.su 4 [] (.cd _ ?_ ?_)
   ·refine Sim.sv 6 [] (.bn ⟨some 73, .gcall false false W54 [[], [(5, 25)]] 16 [70, 72], none, [(70, .at_ 1000001 0), (72, .imm)]⟩ (fun r1 => [(73, qb r1.1)]) (fun r1 => [(1000001, some (.cells [lj r1.2.Client, lj r1.2.Session, lj r1.2.N, lj r1.2.Start, lj r1.2.Beat, vw Thing.cod r1.2.L, .osl 1000002 (0 + 1) 0 (r1.2.Log).length, .osl 1000003 (0 + 1) 0 (r1.2.Wait).length])), (1000002, some (.arr 58 Event.cod.sz (0 + 1) (r1.2.Log).length (zaa Event.cod r1.2.Log))), (1000003, some (.arr 32 Frame.cod.sz (0 + 1) (r1.2.Wait).length (zaa Frame.cod r1.2.Wait)))]) (fun r1 hr => pe (gq (ks := W54) (ARGS := [qp 1000001 0, .agg (w5 a1)]) (F16_ok _ _ _ _ hr))) (fun r1 => ?_))
    exact SimI.dn (.thenN (.su 1 [] (.ret (.blockR (.thenR .fn)))))
   ·exact Sim.skip (.blockN (.thenN (.su 1 [] (.ret .fn))))
def F37_e : ((List Packet) × Client_vedetteref23) → PV × List Ob := fun r => (.one (vw Packet.cod r.1), [.cells (li .i64 r.2.Me :: li .i64 r.2.N :: li .i64 r.2.Session :: li .i64 r.2.Seq :: lb r.2.Busy :: zad r.2.Ask [li .i64 r.2.E, li .i64 r.2.ID, .ptr 1000001 0]), .cells [li .i64 r.2.V.Client, li .i64 r.2.V.Session, li .i64 r.2.V.N, li .i64 r.2.V.Start, li .i64 r.2.V.Beat, vw Thing.cod r.2.V.L, .osl 1000002 1 0 (r.2.V.Log).length, .osl 1000003 1 0 (r.2.V.Wait).length], .arr 58 Event.cod.sz 1 (r.2.V.Log).length (zaa Event.cod r.2.V.Log), .arr 32 Frame.cod.sz 1 (r.2.V.Wait).length (zaa Frame.cod r.2.V.Wait)])
def F37_l9 (n : Nat) (a0 : Client_vedetteref23) : Nat → (List Packet) → Int → Option ((List Packet) × Client_vedetteref23)
 | 0, _, _ => none
 | m + 1, l7, ii8 =>
  if decide (ii8 < a0.N) then
   if decide ((0 : Int) ≤ a0.V.Beat) then
    if ((l7).length + 1) * 456 ≤ zae ∧ (l7).length + 1 ≤ zae then
     (F37_l9 n a0 m) (l7 ++ [(Packet.mk (IntKind.wrap .i64 (100 + a0.Me)) ii8 5 0 (Command.mk 0 0 0 0 (Point.mk 0 0) (A4.mk (Field.mk 0 ByteArray.empty) (Field.mk 0 ByteArray.empty) (Field.mk 0 ByteArray.empty) (Field.mk 0 ByteArray.empty)) (Field.mk 0 ByteArray.empty) 0 0 (Rect.mk 0 0 0 0)) 0 0 (Note.mk 0 0 ([] : List Thing) ([] : List Hand) ([] : List Thing) ([] : List Command)) (Frame.mk 0 0 0 0 0 ([] : List Event)) a0.Session a0.V.Beat)]) (IntKind.wrap .i64 (ii8 + 1))
    else none
   else
    some (l7, a0)
  else
   some (l7, a0)
theorem F37_l9_ok (n : Nat) (a0 : Client_vedetteref23) : ∀ (m : Nat) (l7 : (List Packet)) (ii8 : Int), SimL Try.prog D (n + 8) m p37c18 [(0, qp 1000000 0), (3, .one (.osl 100003 0 0 (l7).length)), (4, qj ii8)] (W23 l7 a0) (F37_l9 n a0 m l7 ii8) (QB 0 (QT Try.prog D (n + 8) p37c24 (QF false pc37_r 4 F37_e))) := by
 intro m_l9
 induction m_l9 with
 | zero => intro l7 ii8; exact SimL.zero'  rfl
 | succ m_l9 ih_l9 =>
  intro l7 ii8
  refine SimL.succ ?_
  unfold F37_l9
  refine Sim.seq (.seq (.rg [(0, qp 1000000 0), (3, .one (.osl 100003 0 0 (l7).length)), (4, qj ii8)] [(100003, some (.arr 73 Packet.cod.sz 0 (l7).length (zaa Packet.cod l7))), (1000000, some (.cells (lj a0.Me :: lj a0.N :: lj a0.Session :: lj a0.Seq :: lb a0.Busy :: zad a0.Ask (W46 a0)))), (1000001, some (.cells (w10 a0))), (1000002, some (.arr 58 Event.cod.sz 1 (a0.V.Log).length (zaa Event.cod a0.V.Log))), (1000003, some (.arr 32 Frame.cod.sz 1 (a0.V.Wait).length (zaa Frame.cod a0.V.Wait)))] (.rv 7 [] (.sp 22 _ ?_ ?_))))
  ·refine SimI.ru 9 [] (.thenN (.cd _ ?_ ?_))
   ·refine Sim.skip (.thenN (.seq (.block (.region0 (.rv 20 [] (.gu ⟨some 54, .app 100003 73 42 456 34 53, none, [(34, Hint.obj 100003), (53, .imm)]⟩ [(54, .one (.osl 100003 (0 + 1) 0 ((l7 ++ [(Packet.mk (iw .i64 (100 + a0.Me)) ii8 5 0 (Command.mk 0 0 0 0 (Point.mk 0 0) (A4.mk (Field.mk 0 be) (Field.mk 0 be) (Field.mk 0 be) (Field.mk 0 be)) (Field.mk 0 be) 0 0 (Rect.mk 0 0 0 0)) 0 0 (Note.mk 0 0 ([] : List Thing) ([] : List Hand) ([] : List Thing) ([] : List Command)) (Frame.mk 0 0 0 0 0 ([] : List Event)) a0.Session a0.V.Beat)])).length))] [(100003, some (.arr 73 Packet.cod.sz (0 + 1) ((l7 ++ [(Packet.mk (iw .i64 (100 + a0.Me)) ii8 5 0 (Command.mk 0 0 0 0 (Point.mk 0 0) (A4.mk (Field.mk 0 be) (Field.mk 0 be) (Field.mk 0 be) (Field.mk 0 be)) (Field.mk 0 be) 0 0 (Rect.mk 0 0 0 0)) 0 0 (Note.mk 0 0 ([] : List Thing) ([] : List Hand) ([] : List Thing) ([] : List Command)) (Frame.mk 0 0 0 0 0 ([] : List Event)) a0.Session a0.V.Beat)])).length (zaa Packet.cod (l7 ++ [(Packet.mk (iw .i64 (100 + a0.Me)) ii8 5 0 (Command.mk 0 0 0 0 (Point.mk 0 0) (A4.mk (Field.mk 0 be) (Field.mk 0 be) (Field.mk 0 be) (Field.mk 0 be)) (Field.mk 0 be) 0 0 (Rect.mk 0 0 0 0)) 0 0 (Note.mk 0 0 ([] : List Thing) ([] : List Hand) ([] : List Thing) ([] : List Command)) (Frame.mk 0 0 0 0 0 ([] : List Event)) a0.Session a0.V.Beat)]))))] (fun hc => pe (zcx (c := Packet.cod) (g := 0) (l := l7) (a := (Packet.mk (iw .i64 (100 + a0.Me)) ii8 5 0 (Command.mk 0 0 0 0 (Point.mk 0 0) (A4.mk (Field.mk 0 be) (Field.mk 0 be) (Field.mk 0 be) (Field.mk 0 be)) (Field.mk 0 be) 0 0 (Rect.mk 0 0 0 0)) 0 0 (Note.mk 0 0 ([] : List Thing) ([] : List Hand) ([] : List Thing) ([] : List Command)) (Frame.mk 0 0 0 0 0 ([] : List Event)) a0.Session a0.V.Beat)) (by kernel_rfl) (by kernel_rfl) (by kernel_rfl) (by kernel_rfl) hc)) (.ru 1 [] (.blockN (.thenN (.region0 (.ru 3 [] (.loopN (.pr [0, 3, 4] W51 [] [(0, qp 1000000 0), (3, .one (.osl 100003 0 0 ((l7 ++ [(Packet.mk (iw .i64 (100 + a0.Me)) ii8 5 0 (Command.mk 0 0 0 0 (Point.mk 0 0) (A4.mk (Field.mk 0 be) (Field.mk 0 be) (Field.mk 0 be) (Field.mk 0 be)) (Field.mk 0 be) 0 0 (Rect.mk 0 0 0 0)) 0 0 (Note.mk 0 0 ([] : List Thing) ([] : List Hand) ([] : List Thing) ([] : List Command)) (Frame.mk 0 0 0 0 0 ([] : List Event)) a0.Session a0.V.Beat)])).length)), (4, qj (iw .i64 (ii8 + 1)))] [(100003, some (.arr 73 Packet.cod.sz 0 ((l7 ++ [(Packet.mk (iw .i64 (100 + a0.Me)) ii8 5 0 (Command.mk 0 0 0 0 (Point.mk 0 0) (A4.mk (Field.mk 0 be) (Field.mk 0 be) (Field.mk 0 be) (Field.mk 0 be)) (Field.mk 0 be) 0 0 (Rect.mk 0 0 0 0)) 0 0 (Note.mk 0 0 ([] : List Thing) ([] : List Hand) ([] : List Thing) ([] : List Command)) (Frame.mk 0 0 0 0 0 ([] : List Event)) a0.Session a0.V.Beat)])).length (zaa Packet.cod (l7 ++ [(Packet.mk (iw .i64 (100 + a0.Me)) ii8 5 0 (Command.mk 0 0 0 0 (Point.mk 0 0) (A4.mk (Field.mk 0 be) (Field.mk 0 be) (Field.mk 0 be) (Field.mk 0 be)) (Field.mk 0 be) 0 0 (Rect.mk 0 0 0 0)) 0 0 (Note.mk 0 0 ([] : List Thing) ([] : List Hand) ([] : List Thing) ([] : List Command)) (Frame.mk 0 0 0 0 0 ([] : List Event)) a0.Session a0.V.Beat)])))), (1000000, some (.cells (lj a0.Me :: lj a0.N :: lj a0.Session :: lj a0.Seq :: lb a0.Busy :: zad a0.Ask (W46 a0)))), (1000001, some (.cells (w10 a0))), (1000002, some (.arr 58 Event.cod.sz 1 (a0.V.Log).length (zaa Event.cod a0.V.Log))), (1000003, some (.arr 32 Frame.cod.sz 1 (a0.V.Wait).length (zaa Frame.cod a0.V.Wait)))] ?_)))))))))))))
    exact ih_l9 (l7 ++ [(Packet.mk (iw .i64 (100 + a0.Me)) ii8 5 0 (Command.mk 0 0 0 0 (Point.mk 0 0) (A4.mk (Field.mk 0 be) (Field.mk 0 be) (Field.mk 0 be) (Field.mk 0 be)) (Field.mk 0 be) 0 0 (Rect.mk 0 0 0 0)) 0 0 (Note.mk 0 0 ([] : List Thing) ([] : List Hand) ([] : List Thing) ([] : List Command)) (Frame.mk 0 0 0 0 0 ([] : List Event)) a0.Session a0.V.Beat)]) (iw .i64 (ii8 + 1))
   ·exact Sim.exit (.thenX (.loopX (.blockX (.thenN (.su 2 [] (.ret (.fin (zek (vs := [.one (vw Packet.cod l7)]) (zaq (zaw (c := Packet.cod) (k := 100003) (g := 0) (el := 73) (l := l7) (by kernel_rfl) (by kernel_rfl) (by kernel_rfl)) (zbe)) (by kernel_rfl)))))))))
  ·exact SimI.ru 9 [] (.thenN (.cf (.exit (.thenX (.loopX (.blockX (.thenN (.su 2 [] (.ret (.fin (zek (vs := [.one (vw Packet.cod l7)]) (zaq (zaw (c := Packet.cod) (k := 100003) (g := 0) (el := 73) (l := l7) (by kernel_rfl) (by kernel_rfl) (by kernel_rfl)) (zbe)) (by kernel_rfl))))))))))))
def F37_j2 (n : Nat) (a0 : Client_vedetteref23) (l1 : (List Packet)) : Option ((List Packet) × Client_vedetteref23) :=
  F37_l9 n a0 (n + 8) l1 0
theorem F37_j2_ok (n : Nat) (a0 : Client_vedetteref23) (l1 : (List Packet)) : Sim Try.prog D (n + 8) p37c25 [(0, qp 1000000 0), (3, .one (.osl 100003 0 0 (l1).length))] (W23 l1 a0) (F37_j2 n a0 l1) (QF false pc37_r 4 F37_e) := by
  unfold F37_j2
  refine Sim.seq (.seq (.rg [(0, qp 1000000 0), (3, .one (.osl 100003 0 0 (l1).length))] [(100003, some (.arr 73 Packet.cod.sz 0 (l1).length (zaa Packet.cod l1))), (1000000, some (.cells (lj a0.Me :: lj a0.N :: lj a0.Session :: lj a0.Seq :: lb a0.Busy :: zad a0.Ask (W46 a0)))), (1000001, some (.cells (w10 a0))), (1000002, some (.arr 58 Event.cod.sz 1 (a0.V.Log).length (zaa Event.cod a0.V.Log))), (1000003, some (.arr 32 Frame.cod.sz 1 (a0.V.Wait).length (zaa Frame.cod a0.V.Wait)))] (.ru 1 [] (.thenN (.block (.loop (.pr [0, 3, 4] W51 [] [(0, qp 1000000 0), (3, .one (.osl 100003 0 0 (l1).length)), (4, qj 0)] [(100003, some (.arr 73 Packet.cod.sz 0 (l1).length (zaa Packet.cod l1))), (1000000, some (.cells (lj a0.Me :: lj a0.N :: lj a0.Session :: lj a0.Seq :: lb a0.Busy :: zad a0.Ask (W46 a0)))), (1000001, some (.cells (w10 a0))), (1000002, some (.arr 58 Event.cod.sz 1 (a0.V.Log).length (zaa Event.cod a0.V.Log))), (1000003, some (.arr 32 Frame.cod.sz 1 (a0.V.Wait).length (zaa Frame.cod a0.V.Wait)))] ?_)))))))
  exact F37_l9_ok n a0 (n + 8) l1 0
def F37 (n : Nat) (a0 : Client_vedetteref23) : Option ((List Packet) × Client_vedetteref23) :=
 if a0.Busy then
  if (([] : List Packet).length + 1) * 456 ≤ zae ∧ ([] : List Packet).length + 1 ≤ zae then
   F37_j2 n a0 [a0.Ask]
  else none
 else
  F37_j2 n a0 ([] : List Packet)
theorem F37_ok (n : Nat) (a0 : Client_vedetteref23) : ∀ r, F37 n a0 = some r → D 37 [.one (.ptr 1000000 0)] [.cells (li .i64 a0.Me :: li .i64 a0.N :: li .i64 a0.Session :: li .i64 a0.Seq :: lb a0.Busy :: zad a0.Ask [li .i64 a0.E, li .i64 a0.ID, .ptr 1000001 0]), .cells [li .i64 a0.V.Client, li .i64 a0.V.Session, li .i64 a0.V.N, li .i64 a0.V.Start, li .i64 a0.V.Beat, vw Thing.cod a0.V.L, .osl 1000002 0 0 (a0.V.Log).length, .osl 1000003 0 0 (a0.V.Wait).length], .arr 58 Event.cod.sz 0 (a0.V.Log).length (zaa Event.cod a0.V.Log), .arr 32 Frame.cod.sz 0 (a0.V.Wait).length (zaa Frame.cod a0.V.Wait)] = some (F37_e r) := by
 refine zan (D := D) (n := n + 8) (nt := 56) (rs := pc37_r) (c := p37c28) (L := [(0, qp 1000000 0)]) (M := [(1000000, some (.cells (lj a0.Me :: lj a0.N :: lj a0.Session :: lj a0.Seq :: lb a0.Busy :: zad a0.Ask (W46 a0)))), (1000001, some (.cells (w11 a0))), (1000002, some (.arr 58 Event.cod.sz 0 (a0.V.Log).length (zaa Event.cod a0.V.Log))), (1000003, some (.arr 32 Frame.cod.sz 0 (a0.V.Wait).length (zaa Frame.cod a0.V.Wait)))]) (k := 4) rfl rfl rfl rfl rfl rfl rfl ?_
 unfold F37
 refine Sim.su 1 [] (.su 1 [] (.seq (.su 4 [] (.cd _ ?_ ?_))))
 ·refine Sim.region0 (.rv 6 [] (.gu ⟨some 15, .app 100003 73 42 456 9 14, none, []⟩ [(15, .one (.osl 100003 0 0 ([a0.Ask]).length))] [(100003, some (.arr 73 Packet.cod.sz 0 ([a0.Ask]).length (zaa Packet.cod [a0.Ask])))] (fun hc => pe (eff_appN (c := Packet.cod) (a := a0.Ask) (by kernel_rfl) (by kernel_rfl) (by kernel_rfl) (by kernel_rfl) (by kernel_rfl) (by kernel_rfl))) (.ru 1 [] (.thenN (.pr [0, 3] W51 [(false, 3, 0, 100003, 73, 42)] [(0, qp 1000000 0), (3, .one (.osl 100003 0 0 ([a0.Ask]).length))] [(100003, some (.arr 73 Packet.cod.sz 0 ([a0.Ask]).length (zaa Packet.cod [a0.Ask]))), (1000000, some (.cells (lj a0.Me :: lj a0.N :: lj a0.Session :: lj a0.Seq :: lb a0.Busy :: zad a0.Ask (W46 a0)))), (1000001, some (.cells (w10 a0))), (1000002, some (.arr 58 Event.cod.sz 1 (a0.V.Log).length (zaa Event.cod a0.V.Log))), (1000003, some (.arr 32 Frame.cod.sz 1 (a0.V.Wait).length (zaa Frame.cod a0.V.Wait)))] ?_)))))
  exact F37_j2_ok n a0 [a0.Ask]
 ·refine Sim.skip (.thenN (.pr [0, 3] W51 [(false, 3, 0, 100003, 73, 42)] [(0, qp 1000000 0), (3, .one (.osl 100003 0 0 (([] : List Packet)).length))] [(100003, some (.arr 73 Packet.cod.sz 0 (([] : List Packet)).length (zaa Packet.cod ([] : List Packet)))), (1000000, some (.cells (lj a0.Me :: lj a0.N :: lj a0.Session :: lj a0.Seq :: lb a0.Busy :: zad a0.Ask (W46 a0)))), (1000001, some (.cells (w10 a0))), (1000002, some (.arr 58 Event.cod.sz 1 (a0.V.Log).length (zaa Event.cod a0.V.Log))), (1000003, some (.arr 32 Frame.cod.sz 1 (a0.V.Wait).length (zaa Frame.cod a0.V.Wait)))] ?_))
  exact F37_j2_ok n a0 ([] : List Packet)
def F39s0_e (a0 : (List Event)) (a1 : (List Frame)) (a2 a3 a4 a5 : Int) (a6 : Bool) (a7 : Packet) (a8 a9 a10 a11 a12 a13 a14 : Int) (a15 : (List Thing)) : (Int × Int × Int × Int × Int × Int × (List Thing) × (List Event) × (List Frame)) → PV × List Ob := fun r => (.tup [], [.cells (li .i64 a2 :: li .i64 a3 :: li .i64 r.1 :: li .i64 0 :: lb false :: zad a7 [li .i64 0, li .i64 0, .ptr 1000004 0]), .cells [li .i64 a10, li .i64 a11, li .i64 a12, li .i64 a13, li .i64 a14, vw Thing.cod a15, .osl 1000002 1 0 (a0).length, .osl 1000003 1 0 (a1).length], .arr 58 Event.cod.sz 1 (a0).length (zaa Event.cod a0), .arr 32 Frame.cod.sz 1 (a1).length (zaa Frame.cod a1), .cells [li .i64 r.2.1, li .i64 r.2.2.1, li .i64 r.2.2.2.1, li .i64 r.2.2.2.2.1, li .i64 r.2.2.2.2.2.1, vw Thing.cod r.2.2.2.2.2.2.1, .osl 1000005 0 0 (r.2.2.2.2.2.2.2.1).length, .osl 1000006 0 0 (r.2.2.2.2.2.2.2.2).length], .arr 58 Event.cod.sz 0 (r.2.2.2.2.2.2.2.1).length (zaa Event.cod r.2.2.2.2.2.2.2.1), .arr 32 Frame.cod.sz 0 (r.2.2.2.2.2.2.2.2).length (zaa Frame.cod r.2.2.2.2.2.2.2.2)])
def F39s0 (n : Nat) (a0 : (List Event)) (a1 : (List Frame)) (a2 a3 a4 a5 : Int) (a6 : Bool) (a7 : Packet) (a8 a9 a10 a11 a12 a13 a14 : Int) (a15 : (List Thing)) : Option (Int × Int × Int × Int × Int × Int × (List Thing) × (List Event) × (List Frame)) :=
 (F14 n a2 (IntKind.wrap .i64 (a4 + 1)) a3).bind fun (r1 : View_vedetteref19) =>
 some ((IntKind.wrap .i64 (a4 + 1)), r1.Client, r1.Session, r1.N, r1.Start, r1.Beat, r1.L, r1.Log, r1.Wait)
theorem F39s0_ok (n : Nat) (a0 : (List Event)) (a1 : (List Frame)) (a2 a3 a4 a5 : Int) (a6 : Bool) (a7 : Packet) (a8 a9 a10 a11 a12 a13 a14 : Int) (a15 : (List Thing)) : ∀ r, F39s0 n a0 a1 a2 a3 a4 a5 a6 a7 a8 a9 a10 a11 a12 a13 a14 a15 = some r → D 39 [.one (.ptr 1000000 0)] [.cells (li .i64 a2 :: li .i64 a3 :: li .i64 a4 :: li .i64 a5 :: lb a6 :: zad a7 [li .i64 a8, li .i64 a9, .ptr 1000001 0]), .cells [li .i64 a10, li .i64 a11, li .i64 a12, li .i64 a13, li .i64 a14, vw Thing.cod a15, .osl 1000002 0 0 (a0).length, .osl 1000003 0 0 (a1).length], .arr 58 Event.cod.sz 0 (a0).length (zaa Event.cod a0), .arr 32 Frame.cod.sz 0 (a1).length (zaa Frame.cod a1)] = some ((F39s0_e a0 a1 a2 a3 a4 a5 a6 a7 a8 a9 a10 a11 a12 a13 a14 a15) r) := by
 refine zan (D := D) (n := n + 8) (nt := 38) (rs := pc39_r) (c := p39c5) (L := [(0, qp 1000000 0)]) (M := [(1000000, some (.cells (lj a2 :: lj a3 :: lj a4 :: lj a5 :: lb a6 :: zad a7 [lj a8, lj a9, .ptr 1000001 0]))), (1000001, some (.cells [lj a10, lj a11, lj a12, lj a13, lj a14, vw Thing.cod a15, .osl 1000002 0 0 (a0).length, .osl 1000003 0 0 (a1).length])), (1000002, some (.arr 58 Event.cod.sz 0 (a0).length (zaa Event.cod a0))), (1000003, some (.arr 32 Frame.cod.sz 0 (a1).length (zaa Frame.cod a1)))]) (k := 4) rfl rfl rfl rfl rfl rfl rfl ?_
 unfold F39s0
 refine Sim.su 9 [(1000000, some (.cells (lj a2 :: lj a3 :: lj (iw .i64 (a4 + 1)) :: lj a5 :: lb a6 :: zad a7 [lj a8, lj a9, .ptr 1000001 0])))] (.su 16 [(1000000, some (.cells (lj a2 :: lj a3 :: lj (iw .i64 (a4 + 1)) :: lj 0 :: lb false :: zad a7 [lj 0, lj 0, .ptr 1000001 0]))), (1000000, some (.cells (lj a2 :: lj a3 :: lj (iw .i64 (a4 + 1)) :: lj 0 :: lb false :: zad a7 [lj 0, lj a9, .ptr 1000001 0]))), (1000000, some (.cells (lj a2 :: lj a3 :: lj (iw .i64 (a4 + 1)) :: lj 0 :: lb false :: zad a7 [lj a8, lj a9, .ptr 1000001 0]))), (1000000, some (.cells (lj a2 :: lj a3 :: lj (iw .i64 (a4 + 1)) :: lj 0 :: lb a6 :: zad a7 [lj a8, lj a9, .ptr 1000001 0])))] (.region0 (.rv 13 [] (.bn ⟨some 35, .gcall false false W8 [[], [], []] 14 [26, 30, 34], none, [(26, .imm), (30, .imm), (34, .imm)]⟩ (fun r1 => [(35, qp 300000 0)]) (fun r1 => [(300000, some (.cells (w13 r1))), (300001, some (.arr 58 Event.cod.sz 0 (r1.Log).length (zaa Event.cod r1.Log))), (300002, some (.arr 32 Frame.cod.sz 0 (r1.Wait).length (zaa Frame.cod r1.Wait)))]) (fun r1 hr => pe (zar (ks := []) (rks := []) (new := [300000, 300001, 300002]) (ARGS := [qj a2, qj (iw .i64 (a4 + 1)), qj a3]) (args1 := [qj a2, qj (iw .i64 (a4 + 1)), qj a3]) (args2 := [qj a2, qj (iw .i64 (a4 + 1)), qj a3]) (os := []) (os' := [.cells (w4 r1), .arr 58 Event.cod.sz 0 (r1.Log).length (zaa Event.cod r1.Log), .arr 32 Frame.cod.sz 0 (r1.Wait).length (zaa Frame.cod r1.Wait)]) (os1 := [.cells (w4 r1), .arr 58 Event.cod.sz 0 (r1.Log).length (zaa Event.cod r1.Log), .arr 32 Frame.cod.sz 0 (r1.Wait).length (zaa Frame.cod r1.Wait)]) (res := qp 1000000 0) (res1 := qp 1000000 0) (r := qp 300000 0) (N := [(300000, some (.cells (w13 r1))), (300001, some (.arr 58 Event.cod.sz 0 (r1.Log).length (zaa Event.cod r1.Log))), (300002, some (.arr 32 Frame.cod.sz 0 (r1.Wait).length (zaa Frame.cod r1.Wait)))]) (by kernel_rfl) (zax (zak (by kernel_rfl) (zak (by kernel_rfl) (zak (by kernel_rfl) (zas))))) (by kernel_rfl) (by kernel_rfl) (by kernel_rfl) (by kernel_rfl) (F14_ok _ _ _ _ _ hr) (by kernel_rfl) (by kernel_rfl) (by kernel_rfl) rfl (by kernel_rfl) (by kernel_rfl) (by kernel_rfl))) (fun r1 => ?_)))))
 exact SimI.ru 3 [(1000000, some (.cells (lj a2 :: lj a3 :: lj (iw .i64 (a4 + 1)) :: lj 0 :: lb false :: zad a7 [lj 0, lj 0, .ptr 300000 0])))] (.finN (by kernel_rfl))
def F9_e : Bool → PV × List Ob := fun r => (.one (lb r), [])
def zdr (n : Nat) (i71 : Int) (rec_l104 : Int → Packet → Int → Int → Int → Bool → Int → Int → Int → Int → Int → Int → Int → Int → (List Thing) → (List Event) → (List (Key × (List Event))) → Packet → Int → Int → Int → Int → Bool → Int → Int → Int → Int → Int → Int → Int → (List Thing) → (List Event) → (List Frame) → Option Bool) (g130 : Packet) (i131 i132 i133 : Int) (b134 : Bool) (i135 i136 i137 i138 i139 i140 i141 i142 : Int) (l143 : (List Thing)) (l144 : (List Event)) (l145 : (List (Key × (List Event)))) (g146 : Packet) (i147 i148 i149 i150 : Int) (b151 : Bool) (i152 i153 i154 i155 i156 i157 i158 : Int) (l159 : (List Thing)) (l160 : (List Event)) (l161 : (List Frame)) : Option Bool :=
  (F40 n (Client.mk i131 i132 i133 (View.mk i138 i139 i140 i141 i142 l143 l144 l145) g130 b134 i135 i136 i137)).bind fun (r163 : (Int × Int × Client)) =>
  (F29 n r163.2.2).bind fun (r164 : (Bool × Client)) =>
  if !(r164.1 == b151) then
   some false
  else
   (F41 n r164.2).bind fun (r165 : (Int × Client)) =>
   if r165.1 != i149 then
    some false
   else
    if r163.1 != i153 then
     some false
    else
     if r163.2.1 != i152 then
      some false
     else
      (F42s0 n r165.2.v.log_ r165.2.id_ r165.2.n r165.2.session r165.2.asked r165.2.busy r165.2.seq r165.2.thing r165.2.e r165.2.v.client r165.2.v.session r165.2.v.n r165.2.v.beat r165.2.v.start r165.2.v.things r165.2.v.wait).bind fun (r166 : Unit) =>
      (F17 n r165.2.v).bind fun (r167 : (Int × View)) =>
      if r167.1 != i158 then
       some false
      else
       (F42s0 n r167.2.log_ r165.2.id_ r165.2.n r165.2.session r165.2.asked r165.2.busy r165.2.seq r165.2.thing r165.2.e r167.2.client r167.2.session r167.2.n r167.2.beat r167.2.start r167.2.things r167.2.wait).bind fun (r168 : Unit) =>
       (F20 n r167.2).bind fun (r169 : ((List Thing) × View)) =>
       (F19 n r169.1 l159).bind fun (r170 : Bool) =>
       if !(r170) then
        some false
       else
        rec_l104 (IntKind.wrap .i64 (i71 + 1)) r165.2.asked r165.2.id_ r165.2.n r165.2.session r165.2.busy r165.2.seq r165.2.thing r165.2.e r169.2.client r169.2.session r169.2.n r169.2.beat r169.2.start r169.2.things r169.2.log_ r169.2.wait g146 i147 i148 i149 i150 b151 i152 i153 i154 i155 i156 i157 i158 l159 l160 l161
theorem zdj (n : Nat) (a0 a1 : Int) (a2 : (List Step)) (i71 : Int) (rec_l104 : Int → Packet → Int → Int → Int → Bool → Int → Int → Int → Int → Int → Int → Int → Int → (List Thing) → (List Event) → (List (Key × (List Event))) → Packet → Int → Int → Int → Int → Bool → Int → Int → Int → Int → Int → Int → Int → (List Thing) → (List Event) → (List Frame) → Option Bool) (m_l104 : Nat) (ih_l104 : ∀ (i71 : Int) (g72 : Packet) (i73 i74 i75 : Int) (b76 : Bool) (i77 i78 i79 i80 i81 i82 i83 i84 : Int) (l85 : (List Thing)) (l86 : (List Event)) (l87 : (List (Key × (List Event)))) (g88 : Packet) (i89 i90 i91 i92 : Int) (b93 : Bool) (i94 i95 i96 i97 i98 i99 i100 : Int) (l101 : (List Thing)) (l102 : (List Event)) (l103 : (List Frame)), SimL Try.prog D (n + 8) m_l104 p9c97 (W22 a2 i71) (W4 i73 i74 i75 g72 b76 i77 i78 i79 i80 i81 i82 i83 i84 l85 l86 l87 i89 i90 i91 i92 b93 g88 i94 i95 i96 i97 i98 i99 i100 l101 l102 l103) (rec_l104 i71 g72 i73 i74 i75 b76 i77 i78 i79 i80 i81 i82 i83 i84 l85 l86 l87 g88 i89 i90 i91 i92 b93 i94 i95 i96 i97 i98 i99 i100 l101 l102 l103) (QB 0 (QT Try.prog D (n + 8) p9c103 (QF false pc9_r 0 F9_e)))) (g130 : Packet) (i131 i132 i133 : Int) (b134 : Bool) (i135 i136 i137 i138 i139 i140 i141 i142 : Int) (l143 : (List Thing)) (l144 : (List Event)) (l145 : (List (Key × (List Event)))) (g146 : Packet) (i147 i148 i149 i150 : Int) (b151 : Bool) (i152 i153 i154 i155 i156 i157 i158 : Int) (l159 : (List Thing)) (l160 : (List Event)) (l161 : (List Frame)) : Sim Try.prog D (n + 8) p9c92 (W22 a2 i71) (W4 i131 i132 i133 g130 b134 i135 i136 i137 i138 i139 i140 i141 i142 l143 l144 l145 i147 i148 i149 i150 b151 g146 i152 i153 i154 i155 i156 i157 i158 l159 l160 l161) (zdr n i71 rec_l104 g130 i131 i132 i133 b134 i135 i136 i137 i138 i139 i140 i141 i142 l143 l144 l145 g146 i147 i148 i149 i150 b151 i152 i153 i154 i155 i156 i157 i158 l159 l160 l161) (QB 1 (QT Try.prog D (n + 8) p9c95 (QL Try.prog D (n + 8) m_l104 p9c97 (QB 0 (QT Try.prog D (n + 8) p9c103 (QF false pc9_r 0 F9_e)))))) := by
  unfold zdr
  refine Sim.seq (.rs (.rv 1 [] (.bn ⟨some 146, .gcall false false W28 [[]] 40 [145], none, []⟩ (fun r163 => [(146, .tup [qj r163.1, qj r163.2.1])]) (fun r163 => [(300000, some (.cells (lj r163.2.2.id_ :: lj r163.2.2.n :: lj r163.2.2.session :: .ptr 300001 0 :: zad r163.2.2.asked [lb r163.2.2.busy, lj r163.2.2.seq, lj r163.2.2.thing, lj r163.2.2.e]))), (300001, some (.cells [lj r163.2.2.v.client, lj r163.2.2.v.session, lj r163.2.2.v.n, lj r163.2.2.v.beat, lj r163.2.2.v.start, vw Thing.cod r163.2.2.v.things, .osl 300002 (0 + 1) 0 (r163.2.2.v.log_).length, .mp 300003])), (300002, some (.arr 58 Event.cod.sz (0 + 1) (r163.2.2.v.log_).length (zaa Event.cod r163.2.2.v.log_))), (300003, some (.map (zaj Key.cells Event.cod r163.2.2.v.wait)))]) (fun r163 hr => pe (gq (ks := W28) (ARGS := [qp 300000 0]) (F40_ok _ _ _ hr))) (fun r163 => ?_))))
  refine SimI.ru 5 [] (.thenN (.sv 1 [] (.bn ⟨some 150, .gcall false false W28 [[]] 29 [149], none, [(149, .at_ 300000 0)]⟩ (fun r164 => [(150, qb r164.1)]) (fun r164 => [(300000, some (.cells (lj r164.2.id_ :: lj r164.2.n :: lj r164.2.session :: .ptr 300001 0 :: zad r164.2.asked [lb r164.2.busy, lj r164.2.seq, lj r164.2.thing, lj r164.2.e]))), (300001, some (.cells [lj r164.2.v.client, lj r164.2.v.session, lj r164.2.v.n, lj r164.2.v.beat, lj r164.2.v.start, vw Thing.cod r164.2.v.things, .osl 300002 ((0 + 1) + 1) 0 (r164.2.v.log_).length, .mp 300003])), (300002, some (.arr 58 Event.cod.sz ((0 + 1) + 1) (r164.2.v.log_).length (zaa Event.cod r164.2.v.log_))), (300003, some (.map (zaj Key.cells Event.cod r164.2.v.wait)))]) (fun r164 hr => pe (gq (ks := W28) (ARGS := [qp 300000 0]) (F29_ok _ _ _ hr))) (fun r164 => ?_))))
  refine SimI.rv 6 [] (.sp 156 _ ?_ ?_)
  ·exact SimI.ru 51 [] (.thenN (.ct (.su 1 [] (.ret (.blockR (.thenR (.loopR (.blockR (.thenR .fn)))))))))
  ·refine SimI.rv 1 [] (.bn ⟨some 158, .gcall false false W28 [[]] 41 [157], some (156, false), [(157, .at_ 300000 0)]⟩ (fun r165 => [(158, qj r165.1)]) (fun r165 => [(300000, some (.cells (lj r165.2.id_ :: lj r165.2.n :: lj r165.2.session :: .ptr 300001 0 :: zad r165.2.asked (W58 r165)))), (300001, some (.cells [lj r165.2.v.client, lj r165.2.v.session, lj r165.2.v.n, lj r165.2.v.beat, lj r165.2.v.start, vw Thing.cod r165.2.v.things, .osl 300002 (((0 + 1) + 1) + 1) 0 (r165.2.v.log_).length, .mp 300003])), (300002, some (.arr 58 Event.cod.sz (((0 + 1) + 1) + 1) (r165.2.v.log_).length (zaa Event.cod r165.2.v.log_))), (300003, some (.map (zaj Key.cells Event.cod r165.2.v.wait)))]) (fun r165 hr => pe (gq (ks := W28) (ARGS := [qp 300000 0]) (F41_ok _ _ _ hr))) (fun r165 => ?_))
   refine SimI.rv 7 [] (.sp 165 _ ?_ ?_)
   ·exact SimI.ru 42 [] (.thenN (.ct (.su 1 [] (.ret (.blockR (.thenR (.loopR (.blockR (.thenR .fn)))))))))
   ·refine SimI.rv 8 [] (.sp 173 _ ?_ ?_)
    ·exact SimI.ru 34 [] (.thenN (.ct (.su 1 [] (.ret (.blockR (.thenR (.loopR (.blockR (.thenR .fn)))))))))
    ·refine SimI.rv 8 [] (.sp 181 _ ?_ ?_)
     ·exact SimI.ru 26 [] (.thenN (.ct (.su 1 [] (.ret (.blockR (.thenR (.loopR (.blockR (.thenR .fn)))))))))
     ·refine SimI.rv 1 [] (.bn ⟨some 183, .gcall false false W28 [[]] 42 [182], some (181, false), [(182, .at_ 300000 0)]⟩ (fun r166 => [(183, qp 300001 0)]) (fun r166 => [(300000, some (.cells (lj r165.2.id_ :: lj r165.2.n :: lj r165.2.session :: .ptr 300001 0 :: zad r165.2.asked (W58 r165)))), (300001, some (.cells [lj r165.2.v.client, lj r165.2.v.session, lj r165.2.v.n, lj r165.2.v.beat, lj r165.2.v.start, vw Thing.cod r165.2.v.things, .osl 300002 ((((0 + 1) + 1) + 1) + 1) 0 (r165.2.v.log_).length, .mp 300003])), (300002, some (.arr 58 Event.cod.sz ((((0 + 1) + 1) + 1) + 1) (r165.2.v.log_).length (zaa Event.cod r165.2.v.log_))), (300003, some (.map (zaj Key.cells Event.cod r165.2.v.wait)))]) (fun r166 hr => pe (gq (ks := W28) (ARGS := [qp 300000 0]) (F42s0_ok _ _ _ _ _ _ _ _ _ _ _ _ _ _ _ _ _ _ hr))) (fun r166 => ?_))
      refine SimI.bn ⟨some 184, .gcall false false [300001, 300002, 300003] [[]] 17 [183], some (181, false), [(183, .at_ 300001 0)]⟩ (fun r167 => [(184, qj r167.1)]) (fun r167 => [(300001, some (.cells [lj r167.2.client, lj r167.2.session, lj r167.2.n, lj r167.2.beat, lj r167.2.start, vw Thing.cod r167.2.things, .osl 300002 (((((0 + 1) + 1) + 1) + 1) + 1) 0 (r167.2.log_).length, .mp 300003])), (300002, some (.arr 58 Event.cod.sz (((((0 + 1) + 1) + 1) + 1) + 1) (r167.2.log_).length (zaa Event.cod r167.2.log_))), (300003, some (.map (zaj Key.cells Event.cod r167.2.wait)))]) (fun r167 hr => pe (gq (ks := [300001, 300002, 300003]) (ARGS := [qp 300001 0]) (F17_ok _ _ _ hr))) (fun r167 => ?_)
      refine SimI.rv 10 [] (.sp 194 _ ?_ ?_)
      ·exact SimI.ru 13 [] (.thenN (.ct (.su 1 [] (.ret (.blockR (.thenR (.loopR (.blockR (.thenR .fn)))))))))
      ·refine SimI.rv 1 [] (.bn ⟨some 196, .gcall false false W28 [[]] 42 [195], some (194, false), [(195, .at_ 300000 0)]⟩ (fun r168 => [(196, qp 300001 0)]) (fun r168 => [(300000, some (.cells (lj r165.2.id_ :: lj r165.2.n :: lj r165.2.session :: .ptr 300001 0 :: zad r165.2.asked (W58 r165)))), (300001, some (.cells [lj r167.2.client, lj r167.2.session, lj r167.2.n, lj r167.2.beat, lj r167.2.start, vw Thing.cod r167.2.things, .osl 300002 ((((((0 + 1) + 1) + 1) + 1) + 1) + 1) 0 (r167.2.log_).length, .mp 300003])), (300002, some (.arr 58 Event.cod.sz ((((((0 + 1) + 1) + 1) + 1) + 1) + 1) (r167.2.log_).length (zaa Event.cod r167.2.log_))), (300003, some (.map (zaj Key.cells Event.cod r167.2.wait)))]) (fun r168 hr => pe (gq (ks := W28) (ARGS := [qp 300000 0]) (F42s0_ok _ _ _ _ _ _ _ _ _ _ _ _ _ _ _ _ _ _ hr))) (fun r168 => ?_))
       refine SimI.bn ⟨some 197, .gcall false false [300001, 300002, 300003] [[]] 20 [196], some (194, false), [(196, .at_ 300001 0)]⟩ (fun r169 => [(197, .one (vw Thing.cod r169.1))]) (fun r169 => [(300001, some (.cells [lj r169.2.client, lj r169.2.session, lj r169.2.n, lj r169.2.beat, lj r169.2.start, vw Thing.cod r169.2.things, .osl 300002 (((((((0 + 1) + 1) + 1) + 1) + 1) + 1) + 1) 0 (r169.2.log_).length, .mp 300003])), (300002, some (.arr 58 Event.cod.sz (((((((0 + 1) + 1) + 1) + 1) + 1) + 1) + 1) (r169.2.log_).length (zaa Event.cod r169.2.log_))), (300003, some (.map (zaj Key.cells Event.cod r169.2.wait)))]) (fun r169 hr => pe (gq (ks := [300001, 300002, 300003]) (ARGS := [qp 300001 0]) (F20_ok _ _ _ hr))) (fun r169 => ?_)
       refine SimI.rv 7 [] (.cm 205 false [[(0, 11)], [(0, 11)]] 19 [197, 204] (some (194, false)) [(197, .imm), (204, .imm)] (F19_ok _ _ _) (fun r170 => ?_))
       refine SimI.ru 2 [] (.thenN (.cd _ ?_ ?_))
       ·exact Sim.su 1 [] (.ret (.blockR (.thenR (.loopR (.blockR (.thenR .fn))))))
       ·refine Sim.skip (.blockN (.thenN (.region0 (.ru 3 [] (.loopN (.pr [2, 7, 8, 9] W33 [] [(2, .one (vw Step.cod a2)), (7, qp 300000 0), (8, qp 300004 0), (9, qj (iw .i64 (i71 + 1)))] [(300000, some (.cells (lj r165.2.id_ :: lj r165.2.n :: lj r165.2.session :: .ptr 300001 0 :: zad r165.2.asked (W58 r165)))), (300001, some (.cells [lj r169.2.client, lj r169.2.session, lj r169.2.n, lj r169.2.beat, lj r169.2.start, vw Thing.cod r169.2.things, .osl 300002 0 0 (r169.2.log_).length, .mp 300003])), (300002, some (.arr 58 Event.cod.sz 0 (r169.2.log_).length (zaa Event.cod r169.2.log_))), (300003, some (.map (zaj Key.cells Event.cod r169.2.wait))), (300004, some (.cells (lj i147 :: lj i148 :: lj i149 :: lj i150 :: lb b151 :: zad g146 [lj i152, lj i153, .ptr 300005 0]))), (300005, some (.cells [lj i154, lj i155, lj i156, lj i157, lj i158, vw Thing.cod l159, .osl 300006 0 0 (l160).length, .osl 300007 0 0 (l161).length])), (300006, some (.arr 58 Event.cod.sz 0 (l160).length (zaa Event.cod l160))), (300007, some (.arr 32 Frame.cod.sz 0 (l161).length (zaa Frame.cod l161)))] ?_))))))
        exact ih_l104 (iw .i64 (i71 + 1)) r165.2.asked r165.2.id_ r165.2.n r165.2.session r165.2.busy r165.2.seq r165.2.thing r165.2.e r169.2.client r169.2.session r169.2.n r169.2.beat r169.2.start r169.2.things r169.2.log_ r169.2.wait g146 i147 i148 i149 i150 b151 i152 i153 i154 i155 i156 i157 i158 l159 l160 l161
def F9_l124 (n : Nat) (i71 : Int) (r119 : ((List Packet) × Client)) (r120 : ((List Packet) × Client_vedetteref23)) (rec_l104 : Int → Packet → Int → Int → Int → Bool → Int → Int → Int → Int → Int → Int → Int → Int → (List Thing) → (List Event) → (List (Key × (List Event))) → Packet → Int → Int → Int → Int → Bool → Int → Int → Int → Int → Int → Int → Int → (List Thing) → (List Event) → (List Frame) → Option Bool) : Nat → Int → Option Bool
 | 0, _ => none
 | m + 1, i123 =>
  if decide (i123 < ((r119.1).length : Int)) then
   (ix r119.1 i123).bind fun (x125 : Packet) =>
   (ix r120.1 i123).bind fun (x126 : Packet) =>
   (F34 n x125 x126).bind fun (r127 : Bool) =>
   if !(r127) then
    some false
   else
    (F9_l124 n i71 r119 r120 rec_l104 m) (IntKind.wrap .i64 (i123 + 1))
  else
   zdr n i71 rec_l104 r119.2.asked r119.2.id_ r119.2.n r119.2.session r119.2.busy r119.2.seq r119.2.thing r119.2.e r119.2.v.client r119.2.v.session r119.2.v.n r119.2.v.beat r119.2.v.start r119.2.v.things r119.2.v.log_ r119.2.v.wait r120.2.Ask r120.2.Me r120.2.N r120.2.Session r120.2.Seq r120.2.Busy r120.2.E r120.2.ID r120.2.V.Client r120.2.V.Session r120.2.V.N r120.2.V.Start r120.2.V.Beat r120.2.V.L r120.2.V.Log r120.2.V.Wait
theorem F9_l124_ok (n : Nat) (a0 a1 : Int) (a2 : (List Step)) (i71 : Int) (r119 : ((List Packet) × Client)) (r120 : ((List Packet) × Client_vedetteref23)) (rec_l104 : Int → Packet → Int → Int → Int → Bool → Int → Int → Int → Int → Int → Int → Int → Int → (List Thing) → (List Event) → (List (Key × (List Event))) → Packet → Int → Int → Int → Int → Bool → Int → Int → Int → Int → Int → Int → Int → (List Thing) → (List Event) → (List Frame) → Option Bool) (m_l104 : Nat) (ih_l104 : ∀ (i71 : Int) (g72 : Packet) (i73 i74 i75 : Int) (b76 : Bool) (i77 i78 i79 i80 i81 i82 i83 i84 : Int) (l85 : (List Thing)) (l86 : (List Event)) (l87 : (List (Key × (List Event)))) (g88 : Packet) (i89 i90 i91 i92 : Int) (b93 : Bool) (i94 i95 i96 i97 i98 i99 i100 : Int) (l101 : (List Thing)) (l102 : (List Event)) (l103 : (List Frame)), SimL Try.prog D (n + 8) m_l104 p9c97 (W22 a2 i71) (W4 i73 i74 i75 g72 b76 i77 i78 i79 i80 i81 i82 i83 i84 l85 l86 l87 i89 i90 i91 i92 b93 g88 i94 i95 i96 i97 i98 i99 i100 l101 l102 l103) (rec_l104 i71 g72 i73 i74 i75 b76 i77 i78 i79 i80 i81 i82 i83 i84 l85 l86 l87 g88 i89 i90 i91 i92 b93 i94 i95 i96 i97 i98 i99 i100 l101 l102 l103) (QB 0 (QT Try.prog D (n + 8) p9c103 (QF false pc9_r 0 F9_e)))) : ∀ (m : Nat) (i123 : Int), SimL Try.prog D (n + 8) m p9c68 [(2, .one (vw Step.cod a2)), (7, qp 300000 0), (8, qp 300004 0), (9, qj i71), (14, .one (vw Packet.cod r119.1)), (15, .one (vw Packet.cod r120.1)), (16, qj i123)] (W1 r119 r120) (F9_l124 n i71 r119 r120 rec_l104 m i123) (QB 3 (QB 2 (QT Try.prog D (n + 8) p9c92 (QB 1 (QT Try.prog D (n + 8) p9c95 (QL Try.prog D (n + 8) m_l104 p9c97 (QB 0 (QT Try.prog D (n + 8) p9c103 (QF false pc9_r 0 F9_e))))))))) := by
 intro m_l124
 induction m_l124 with
 | zero => intro i123; exact SimL.zero'  rfl
 | succ m_l124 ih_l124 =>
  intro i123
  refine SimL.succ ?_
  unfold F9_l124
  refine Sim.seq (.seq (.rg [(2, .one (vw Step.cod a2)), (7, qp 300000 0), (8, qp 300004 0), (9, qj i71), (14, .one (vw Packet.cod r119.1)), (15, .one (vw Packet.cod r120.1)), (16, qj i123)] (W1 r119 r120) (.ru 4 [] (.thenN (.cd _ ?_ ?_)))))
  ·refine Sim.skip (.thenN (.seq (.block (.sv 2 [] (.bn ⟨some 136, .iaddrS 42 134 135, none, [(134, .imm), (135, .imm)]⟩ (fun x125 => [(136, .one (.eptr (Packet.cod.enc x125) 0))]) (fun x125 => []) (fun x125 hr => pe (ei (c := Packet.cod) (k := .i64) hr)) (fun x125 => ?_))))))
   refine SimI.rv 3 [] (.bn ⟨some 140, .iaddrS 42 138 139, none, [(138, .imm), (139, .imm)]⟩ (fun x126 => [(140, .one (.eptr (Packet.cod.enc x126) 0))]) (fun x126 => []) (fun x126 hr => pe (ei (c := Packet.cod) (k := .i64) hr)) (fun x126 => ?_))
   refine SimI.rv 1 [] (.cm 142 false [k0', k0'] 34 [137, 141] none [(137, .imm), (141, .imm)] (F34_ok _ _ _) (fun r127 => ?_))
   refine SimI.ru 1 [] (.thenN (.cd _ ?_ ?_))
   ·exact Sim.su 1 [] (.ret (.blockR (.thenR (.loopR (.blockR (.blockR (.thenR (.blockR (.thenR (.loopR (.blockR (.thenR .fn))))))))))))
   ·refine Sim.skip (.blockN (.thenN (.region0 (.ru 3 [] (.loopN (.pr [2, 7, 8, 9, 14, 15, 16] W33 [] [(2, .one (vw Step.cod a2)), (7, qp 300000 0), (8, qp 300004 0), (9, qj i71), (14, .one (vw Packet.cod r119.1)), (15, .one (vw Packet.cod r120.1)), (16, qj (iw .i64 (i123 + 1)))] (W1 r119 r120) ?_))))))
    exact ih_l124 (iw .i64 (i123 + 1))
  ·refine Sim.exit (.thenX (.loopX (.blockX (.blockN (.thenN (.pr [2, 7, 8, 9] W26 k10' (W22 a2 i71) (W1 r119 r120) ?_))))))
   exact zdj n a0 a1 a2 i71 rec_l104 m_l104 ih_l104 r119.2.asked r119.2.id_ r119.2.n r119.2.session r119.2.busy r119.2.seq r119.2.thing r119.2.e r119.2.v.client r119.2.v.session r119.2.v.n r119.2.v.beat r119.2.v.start r119.2.v.things r119.2.v.log_ r119.2.v.wait r120.2.Ask r120.2.Me r120.2.N r120.2.Session r120.2.Seq r120.2.Busy r120.2.E r120.2.ID r120.2.V.Client r120.2.V.Session r120.2.V.N r120.2.V.Start r120.2.V.Beat r120.2.V.L r120.2.V.Log r120.2.V.Wait
def zbh (n : Nat) (a2 : (List Step)) : Nat → Int → Packet → Int → Int → Int → Bool → Int → Int → Int → Int → Int → Int → Int → Int → (List Thing) → (List Event) → (List (Key × (List Event))) → Packet → Int → Int → Int → Int → Bool → Int → Int → Int → Int → Int → Int → Int → (List Thing) → (List Event) → (List Frame) → Option Bool
 | 0, _, _, _, _, _, _, _, _, _, _, _, _, _, _, _, _, _, _, _, _, _, _, _, _, _, _, _, _, _, _, _, _, _ => none
 | m + 1, i71, g72, i73, i74, i75, b76, i77, i78, i79, i80, i81, i82, i83, i84, l85, l86, l87, g88, i89, i90, i91, i92, b93, i94, i95, i96, i97, i98, i99, i100, l101, l102, l103 =>
  if decide (i71 < ((a2).length : Int)) then
   (ix a2 i71).bind fun (x105 : Step) =>
   if decide (x105.What ≤ 1) then
    (ix a2 i71).bind fun (x106 : Step) =>
    (ix a2 i71).bind fun (x107 : Step) =>
    (F28 n (Client.mk i73 i74 i75 (View.mk i80 i81 i82 i83 i84 l85 l86 l87) g72 b76 i77 i78 i79) x106.To x107.C).bind fun (r108 : (Packet × Int × Client)) =>
    (ix a2 i71).bind fun (x109 : Step) =>
    (ix a2 i71).bind fun (x110 : Step) =>
    (F33 n (Client_vedetteref23.mk i89 i90 i91 i92 b93 g88 i94 i95 (View_vedetteref19.mk i96 i97 i98 i99 i100 l101 l102 l103)) x109.To x110.C).bind fun (r111 : (Packet × Int × Client_vedetteref23)) =>
    if r108.2.1 != r111.2.1 then
     some false
    else
     if r108.2.1 == 0 then
      (F34 n r108.1 r111.1).bind fun (r112 : Bool) =>
      if !(r112) then
       some false
      else
       zdr n i71 (zbh n a2 m) r108.2.2.asked r108.2.2.id_ r108.2.2.n r108.2.2.session r108.2.2.busy r108.2.2.seq r108.2.2.thing r108.2.2.e r108.2.2.v.client r108.2.2.v.session r108.2.2.v.n r108.2.2.v.beat r108.2.2.v.start r108.2.2.v.things r108.2.2.v.log_ r108.2.2.v.wait r111.2.2.Ask r111.2.2.Me r111.2.2.N r111.2.2.Session r111.2.2.Seq r111.2.2.Busy r111.2.2.E r111.2.2.ID r111.2.2.V.Client r111.2.2.V.Session r111.2.2.V.N r111.2.2.V.Start r111.2.2.V.Beat r111.2.2.V.L r111.2.2.V.Log r111.2.2.V.Wait
     else
      zdr n i71 (zbh n a2 m) r108.2.2.asked r108.2.2.id_ r108.2.2.n r108.2.2.session r108.2.2.busy r108.2.2.seq r108.2.2.thing r108.2.2.e r108.2.2.v.client r108.2.2.v.session r108.2.2.v.n r108.2.2.v.beat r108.2.2.v.start r108.2.2.v.things r108.2.2.v.log_ r108.2.2.v.wait r111.2.2.Ask r111.2.2.Me r111.2.2.N r111.2.2.Session r111.2.2.Seq r111.2.2.Busy r111.2.2.E r111.2.2.ID r111.2.2.V.Client r111.2.2.V.Session r111.2.2.V.N r111.2.2.V.Start r111.2.2.V.Beat r111.2.2.V.L r111.2.2.V.Log r111.2.2.V.Wait
   else
    (ix a2 i71).bind fun (x113 : Step) =>
    if decide (x113.What ≤ 3) then
     (ix a2 i71).bind fun (x114 : Step) =>
     (F35 n (Client.mk i73 i74 i75 (View.mk i80 i81 i82 i83 i84 l85 l86 l87) g72 b76 i77 i78 i79) x114.P).bind fun (r115 : (Int × Client)) =>
     (ix a2 i71).bind fun (x116 : Step) =>
     (F36 n (Client_vedetteref23.mk i89 i90 i91 i92 b93 g88 i94 i95 (View_vedetteref19.mk i96 i97 i98 i99 i100 l101 l102 l103)) x116.P).bind fun (r117 : (Int × Client_vedetteref23)) =>
     if r115.1 != r117.1 then
      some false
     else
      zdr n i71 (zbh n a2 m) r115.2.asked r115.2.id_ r115.2.n r115.2.session r115.2.busy r115.2.seq r115.2.thing r115.2.e r115.2.v.client r115.2.v.session r115.2.v.n r115.2.v.beat r115.2.v.start r115.2.v.things r115.2.v.log_ r115.2.v.wait r117.2.Ask r117.2.Me r117.2.N r117.2.Session r117.2.Seq r117.2.Busy r117.2.E r117.2.ID r117.2.V.Client r117.2.V.Session r117.2.V.N r117.2.V.Start r117.2.V.Beat r117.2.V.L r117.2.V.Log r117.2.V.Wait
    else
     (ix a2 i71).bind fun (x118 : Step) =>
     if x118.What == 4 then
      (F30 n (Client.mk i73 i74 i75 (View.mk i80 i81 i82 i83 i84 l85 l86 l87) g72 b76 i77 i78 i79)).bind fun (r119 : ((List Packet) × Client)) =>
      (F37 n (Client_vedetteref23.mk i89 i90 i91 i92 b93 g88 i94 i95 (View_vedetteref19.mk i96 i97 i98 i99 i100 l101 l102 l103))).bind fun (r120 : ((List Packet) × Client_vedetteref23)) =>
      if ((r119.1).length : Int) != ((r120.1).length : Int) then
       some false
      else
       F9_l124 n i71 r119 r120 (zbh n a2 m) (n + 8) 0
     else
      (F38s1 n l86 i73 i74 i75 g72 b76 i77 i78 i79 i80 i81 i82 i83 i84 l85 l87).bind fun (r128 : (Int × (List Thing) × (List Hand) × (List Thing) × (List Command) × (List Event) × Int × Int × Int × Int × Int × (List Thing) × (List Event) × (List (Key × (List Event))))) =>
      (F39s0 n l102 l103 i89 i90 i91 i92 b93 g88 i94 i95 i96 i97 i98 i99 i100 l101).bind fun (r129 : (Int × Int × Int × Int × Int × Int × (List Thing) × (List Event) × (List Frame))) =>
      zdr n i71 (zbh n a2 m) (Packet.mk 0 0 0 0 (Command.mk 0 0 0 0 (Point.mk 0 0) (A4.mk (Field.mk 0 ByteArray.empty) (Field.mk 0 ByteArray.empty) (Field.mk 0 ByteArray.empty) (Field.mk 0 ByteArray.empty)) (Field.mk 0 ByteArray.empty) 0 0 (Rect.mk 0 0 0 0)) 0 0 (Note.mk 0 0 r128.2.1 r128.2.2.1 r128.2.2.2.1 r128.2.2.2.2.1) (Frame.mk 0 0 0 0 0 r128.2.2.2.2.2.1) 0 0) i73 i74 r128.1 false 0 0 0 r128.2.2.2.2.2.2.1 r128.2.2.2.2.2.2.2.1 r128.2.2.2.2.2.2.2.2.1 r128.2.2.2.2.2.2.2.2.2.1 r128.2.2.2.2.2.2.2.2.2.2.1 r128.2.2.2.2.2.2.2.2.2.2.2.1 r128.2.2.2.2.2.2.2.2.2.2.2.2.1 r128.2.2.2.2.2.2.2.2.2.2.2.2.2 g88 i89 i90 r129.1 0 false 0 0 r129.2.1 r129.2.2.1 r129.2.2.2.1 r129.2.2.2.2.1 r129.2.2.2.2.2.1 r129.2.2.2.2.2.2.1 r129.2.2.2.2.2.2.2.1 r129.2.2.2.2.2.2.2.2
  else
   some true
theorem F9_l104_ok (n : Nat) (a0 a1 : Int) (a2 : (List Step)) : ∀ (m : Nat) (i71 : Int) (g72 : Packet) (i73 i74 i75 : Int) (b76 : Bool) (i77 i78 i79 i80 i81 i82 i83 i84 : Int) (l85 : (List Thing)) (l86 : (List Event)) (l87 : (List (Key × (List Event)))) (g88 : Packet) (i89 i90 i91 i92 : Int) (b93 : Bool) (i94 i95 i96 i97 i98 i99 i100 : Int) (l101 : (List Thing)) (l102 : (List Event)) (l103 : (List Frame)), SimL Try.prog D (n + 8) m p9c97 (W22 a2 i71) (W4 i73 i74 i75 g72 b76 i77 i78 i79 i80 i81 i82 i83 i84 l85 l86 l87 i89 i90 i91 i92 b93 g88 i94 i95 i96 i97 i98 i99 i100 l101 l102 l103) (zbh n a2 m i71 g72 i73 i74 i75 b76 i77 i78 i79 i80 i81 i82 i83 i84 l85 l86 l87 g88 i89 i90 i91 i92 b93 i94 i95 i96 i97 i98 i99 i100 l101 l102 l103) (QB 0 (QT Try.prog D (n + 8) p9c103 (QF false pc9_r 0 F9_e))) := by
 intro m_l104
 induction m_l104 with
 | zero => intro i71 g72 i73 i74 i75 b76 i77 i78 i79 i80 i81 i82 i83 i84 l85 l86 l87 g88 i89 i90 i91 i92 b93 i94 i95 i96 i97 i98 i99 i100 l101 l102 l103; exact SimL.zero'  rfl
 | succ m_l104 ih_l104 =>
  intro i71 g72 i73 i74 i75 b76 i77 i78 i79 i80 i81 i82 i83 i84 l85 l86 l87 g88 i89 i90 i91 i92 b93 i94 i95 i96 i97 i98 i99 i100 l101 l102 l103
  refine SimL.succ ?_
  unfold zbh
  refine Sim.seq (.seq (.rg (W22 a2 i71) (W4 i73 i74 i75 g72 b76 i77 i78 i79 i80 i81 i82 i83 i84 l85 l86 l87 i89 i90 i91 i92 b93 g88 i94 i95 i96 i97 i98 i99 i100 l101 l102 l103) (.ru 4 [] (.thenN (.cd _ ?_ ?_)))))
  ·refine Sim.skip (.thenN (.seq (.block (.seq (.block (.sv 2 [] (.bn ⟨some 43, .iaddrS 66 41 42, none, []⟩ (fun x105 => [(43, .one (.eptr (Step.cod.enc x105) 0))]) (fun x105 => []) (fun x105 hr => pe (ei (c := Step.cod) (k := .i64) hr)) (fun x105 => ?_))))))))
   refine SimI.ru 4 [] (.thenN (.cd _ ?_ ?_))
   ·refine Sim.sv 3 [] (.bn ⟨some 51, .iaddrS 66 49 50, none, [(49, .imm), (50, .imm)]⟩ (fun x106 => [(51, .one (.eptr (Step.cod.enc x106) 0))]) (fun x106 => []) (fun x106 hr => pe (ei (c := Step.cod) (k := .i64) hr)) (fun x106 => ?_))
    refine SimI.rv 4 [] (.bn ⟨some 56, .iaddrS 66 54 55, none, [(54, .imm), (55, .imm)]⟩ (fun x107 => [(56, .one (.eptr (Step.cod.enc x107) 0))]) (fun x107 => []) (fun x107 hr => pe (ei (c := Step.cod) (k := .i64) hr)) (fun x107 => ?_))
    refine SimI.rv 2 [] (.bn ⟨some 59, .gcall false false W28 [[], [], []] 28 [48, 53, 58], none, [(48, .at_ 300000 0), (53, .imm), (58, .imm)]⟩ (fun r108 => [(59, .tup [.agg (zad r108.1 []), qj r108.2.1])]) (fun r108 => [(300000, some (.cells (lj r108.2.2.id_ :: lj r108.2.2.n :: lj r108.2.2.session :: .ptr 300001 0 :: zad r108.2.2.asked [lb r108.2.2.busy, lj r108.2.2.seq, lj r108.2.2.thing, lj r108.2.2.e]))), (300001, some (.cells [lj r108.2.2.v.client, lj r108.2.2.v.session, lj r108.2.2.v.n, lj r108.2.2.v.beat, lj r108.2.2.v.start, vw Thing.cod r108.2.2.v.things, .osl 300002 (0 + 1) 0 (r108.2.2.v.log_).length, .mp 300003])), (300002, some (.arr 58 Event.cod.sz (0 + 1) (r108.2.2.v.log_).length (zaa Event.cod r108.2.2.v.log_))), (300003, some (.map (zaj Key.cells Event.cod r108.2.2.v.wait)))]) (fun r108 hr => pe (gq (ks := W28) (ARGS := [qp 300000 0, qj x106.To, .agg (Command.cells x107.C)]) (F28_ok _ _ _ _ _ hr))) (fun r108 => ?_))
    refine SimI.ru 6 [(10, some (.cells (zad r108.1 []))), (10, some (.cells W0))] (.thenN (.sv 3 [] (.bn ⟨some 66, .iaddrS 66 64 65, none, [(64, .imm), (65, .imm)]⟩ (fun x109 => [(66, .one (.eptr (Step.cod.enc x109) 0))]) (fun x109 => []) (fun x109 hr => pe (ei (c := Step.cod) (k := .i64) hr)) (fun x109 => ?_))))
    refine SimI.rv 4 [] (.bn ⟨some 71, .iaddrS 66 69 70, none, [(69, .imm), (70, .imm)]⟩ (fun x110 => [(71, .one (.eptr (Step.cod.enc x110) 0))]) (fun x110 => []) (fun x110 hr => pe (ei (c := Step.cod) (k := .i64) hr)) (fun x110 => ?_))
    refine SimI.rv 2 [] (.bn ⟨some 74, .gcall false false W59 [[], [], []] 33 [63, 68, 73], none, [(63, .at_ 300004 0), (68, .imm), (73, .imm)]⟩ (fun r111 => [(74, .tup [.agg (zad r111.1 []), qj r111.2.1])]) (fun r111 => [(300004, some (.cells (lj r111.2.2.Me :: lj r111.2.2.N :: lj r111.2.2.Session :: lj r111.2.2.Seq :: lb r111.2.2.Busy :: zad r111.2.2.Ask [lj r111.2.2.E, lj r111.2.2.ID, .ptr 300005 0]))), (300005, some (.cells [lj r111.2.2.V.Client, lj r111.2.2.V.Session, lj r111.2.2.V.N, lj r111.2.2.V.Start, lj r111.2.2.V.Beat, vw Thing.cod r111.2.2.V.L, .osl 300006 (0 + 1) 0 (r111.2.2.V.Log).length, .osl 300007 (0 + 1) 0 (r111.2.2.V.Wait).length])), (300006, some (.arr 58 Event.cod.sz (0 + 1) (r111.2.2.V.Log).length (zaa Event.cod r111.2.2.V.Log))), (300007, some (.arr 32 Frame.cod.sz (0 + 1) (r111.2.2.V.Wait).length (zaa Frame.cod r111.2.2.V.Wait)))]) (fun r111 hr => pe (gq (ks := W59) (ARGS := [qp 300004 0, qj x109.To, .agg (Command.cells x110.C)]) (F33_ok _ _ _ _ _ hr))) (fun r111 => ?_))
    refine SimI.ru 6 [(12, some (.cells (zad r111.1 []))), (12, some (.cells W0))] (.thenN (.sv 4 [] (.sp 80 _ ?_ ?_)))
    ·exact SimI.ru 9 [] (.thenN (.ct (.su 1 [] (.ret (.blockR (.thenR (.blockR (.thenR (.loopR (.blockR (.thenR .fn)))))))))))
    ·refine SimI.rv 3 [] (.sp 83 _ ?_ ?_)
     ·refine SimI.rv 2 [] (.cl 86 true [k0', k0'] 34 [84, 85] (some (83, true)) (fun r112 => qb r112) [.agg (zad r108.1 []), .agg (zad r111.1 [])] (F34_ok _ _ _) (fun r112 => ?_))
      refine SimI.ru 3 [] (.thenN (.cd _ ?_ ?_))
      ·exact Sim.su 1 [] (.ret (.blockR (.thenR (.blockR (.thenR (.loopR (.blockR (.thenR .fn))))))))
      ·refine Sim.skip (.blockN (.thenN (.pr [2, 7, 8, 9] W26 k10' (W22 a2 i71) (W13 r108 r111) ?_)))
       exact zdj n a0 a1 a2 i71 (zbh n a2 m_l104) m_l104 ih_l104 r108.2.2.asked r108.2.2.id_ r108.2.2.n r108.2.2.session r108.2.2.busy r108.2.2.seq r108.2.2.thing r108.2.2.e r108.2.2.v.client r108.2.2.v.session r108.2.2.v.n r108.2.2.v.beat r108.2.2.v.start r108.2.2.v.things r108.2.2.v.log_ r108.2.2.v.wait r111.2.2.Ask r111.2.2.Me r111.2.2.N r111.2.2.Session r111.2.2.Seq r111.2.2.Busy r111.2.2.E r111.2.2.ID r111.2.2.V.Client r111.2.2.V.Session r111.2.2.V.N r111.2.2.V.Start r111.2.2.V.Beat r111.2.2.V.L r111.2.2.V.Log r111.2.2.V.Wait
     ·refine SimI.ru 6 [] (.thenN (.cf (.skip (.blockN (.thenN (.pr [2, 7, 8, 9] W26 k10' (W22 a2 i71) (W13 r108 r111) ?_))))))
      exact zdj n a0 a1 a2 i71 (zbh n a2 m_l104) m_l104 ih_l104 r108.2.2.asked r108.2.2.id_ r108.2.2.n r108.2.2.session r108.2.2.busy r108.2.2.seq r108.2.2.thing r108.2.2.e r108.2.2.v.client r108.2.2.v.session r108.2.2.v.n r108.2.2.v.beat r108.2.2.v.start r108.2.2.v.things r108.2.2.v.log_ r108.2.2.v.wait r111.2.2.Ask r111.2.2.Me r111.2.2.N r111.2.2.Session r111.2.2.Seq r111.2.2.Busy r111.2.2.E r111.2.2.ID r111.2.2.V.Client r111.2.2.V.Session r111.2.2.V.N r111.2.2.V.Start r111.2.2.V.Beat r111.2.2.V.L r111.2.2.V.Log r111.2.2.V.Wait
   ·refine Sim.sv 2 [] (.bn ⟨some 93, .iaddrS 66 91 92, none, []⟩ (fun x113 => [(93, .one (.eptr (Step.cod.enc x113) 0))]) (fun x113 => []) (fun x113 hr => pe (ei (c := Step.cod) (k := .i64) hr)) (fun x113 => ?_))
    refine SimI.ru 4 [] (.thenN (.cd _ ?_ ?_))
    ·refine Sim.sv 3 [] (.bn ⟨some 100, .iaddrS 66 98 99, none, [(98, .imm), (99, .imm)]⟩ (fun x114 => [(100, .one (.eptr (Step.cod.enc x114) 0))]) (fun x114 => []) (fun x114 hr => pe (ei (c := Step.cod) (k := .i64) hr)) (fun x114 => ?_))
     refine SimI.rv 2 [] (.bn ⟨some 103, .gcall false false W28 [[], k0'] 35 [97, 102], none, [(97, .at_ 300000 0), (102, .imm)]⟩ (fun r115 => [(103, qj r115.1)]) (fun r115 => [(300000, some (.cells (lj r115.2.id_ :: lj r115.2.n :: lj r115.2.session :: .ptr 300001 0 :: zad r115.2.asked (W58 r115)))), (300001, some (.cells [lj r115.2.v.client, lj r115.2.v.session, lj r115.2.v.n, lj r115.2.v.beat, lj r115.2.v.start, vw Thing.cod r115.2.v.things, .osl 300002 (0 + 1) 0 (r115.2.v.log_).length, .mp 300003])), (300002, some (.arr 58 Event.cod.sz (0 + 1) (r115.2.v.log_).length (zaa Event.cod r115.2.v.log_))), (300003, some (.map (zaj Key.cells Event.cod r115.2.v.wait)))]) (fun r115 hr => pe (gq (ks := W28) (ARGS := [qp 300000 0, .agg (zad x114.P [])]) (F35_ok _ _ _ _ hr))) (fun r115 => ?_))
     refine SimI.rv 3 [] (.bn ⟨some 107, .iaddrS 66 105 106, none, [(105, .imm), (106, .imm)]⟩ (fun x116 => [(107, .one (.eptr (Step.cod.enc x116) 0))]) (fun x116 => []) (fun x116 hr => pe (ei (c := Step.cod) (k := .i64) hr)) (fun x116 => ?_))
     refine SimI.rv 2 [] (.bn ⟨some 110, .gcall false false W59 [[], k0'] 36 [104, 109], none, [(104, .at_ 300004 0), (109, .imm)]⟩ (fun r117 => [(110, qj r117.1)]) (fun r117 => [(300004, some (.cells (lj r117.2.Me :: lj r117.2.N :: lj r117.2.Session :: lj r117.2.Seq :: lb r117.2.Busy :: zad r117.2.Ask [lj r117.2.E, lj r117.2.ID, .ptr 300005 0]))), (300005, some (.cells [lj r117.2.V.Client, lj r117.2.V.Session, lj r117.2.V.N, lj r117.2.V.Start, lj r117.2.V.Beat, vw Thing.cod r117.2.V.L, .osl 300006 (0 + 1) 0 (r117.2.V.Log).length, .osl 300007 (0 + 1) 0 (r117.2.V.Wait).length])), (300006, some (.arr 58 Event.cod.sz (0 + 1) (r117.2.V.Log).length (zaa Event.cod r117.2.V.Log))), (300007, some (.arr 32 Frame.cod.sz (0 + 1) (r117.2.V.Wait).length (zaa Frame.cod r117.2.V.Wait)))]) (fun r117 hr => pe (gq (ks := W59) (ARGS := [qp 300004 0, .agg (zad x116.P [])]) (F36_ok _ _ _ _ hr))) (fun r117 => ?_))
     refine SimI.ru 1 [] (.thenN (.cd _ ?_ ?_))
     ·exact Sim.su 1 [] (.ret (.blockR (.thenR (.blockR (.thenR (.loopR (.blockR (.thenR .fn))))))))
     ·refine Sim.skip (.blockN (.thenN (.pr [2, 7, 8, 9] W26 k10' (W22 a2 i71) [(300000, some (.cells (lj r115.2.id_ :: lj r115.2.n :: lj r115.2.session :: .ptr 300001 0 :: zad r115.2.asked (W58 r115)))), (300001, some (.cells [lj r115.2.v.client, lj r115.2.v.session, lj r115.2.v.n, lj r115.2.v.beat, lj r115.2.v.start, vw Thing.cod r115.2.v.things, .osl 300002 0 0 (r115.2.v.log_).length, .mp 300003])), (300002, some (.arr 58 Event.cod.sz 0 (r115.2.v.log_).length (zaa Event.cod r115.2.v.log_))), (300003, some (.map (zaj Key.cells Event.cod r115.2.v.wait))), (300004, some (.cells (lj r117.2.Me :: lj r117.2.N :: lj r117.2.Session :: lj r117.2.Seq :: lb r117.2.Busy :: zad r117.2.Ask [lj r117.2.E, lj r117.2.ID, .ptr 300005 0]))), (300005, some (.cells [lj r117.2.V.Client, lj r117.2.V.Session, lj r117.2.V.N, lj r117.2.V.Start, lj r117.2.V.Beat, vw Thing.cod r117.2.V.L, .osl 300006 0 0 (r117.2.V.Log).length, .osl 300007 0 0 (r117.2.V.Wait).length])), (300006, some (.arr 58 Event.cod.sz 0 (r117.2.V.Log).length (zaa Event.cod r117.2.V.Log))), (300007, some (.arr 32 Frame.cod.sz 0 (r117.2.V.Wait).length (zaa Frame.cod r117.2.V.Wait)))] ?_)))
      exact zdj n a0 a1 a2 i71 (zbh n a2 m_l104) m_l104 ih_l104 r115.2.asked r115.2.id_ r115.2.n r115.2.session r115.2.busy r115.2.seq r115.2.thing r115.2.e r115.2.v.client r115.2.v.session r115.2.v.n r115.2.v.beat r115.2.v.start r115.2.v.things r115.2.v.log_ r115.2.v.wait r117.2.Ask r117.2.Me r117.2.N r117.2.Session r117.2.Seq r117.2.Busy r117.2.E r117.2.ID r117.2.V.Client r117.2.V.Session r117.2.V.N r117.2.V.Start r117.2.V.Beat r117.2.V.L r117.2.V.Log r117.2.V.Wait
    ·refine Sim.sv 2 [] (.bn ⟨some 115, .iaddrS 66 113 114, none, []⟩ (fun x118 => [(115, .one (.eptr (Step.cod.enc x118) 0))]) (fun x118 => []) (fun x118 hr => pe (ei (c := Step.cod) (k := .i64) hr)) (fun x118 => ?_))
     refine SimI.ru 4 [] (.thenN (.cd _ ?_ ?_))
     ·refine Sim.sv 1 [] (.bn ⟨some 120, .gcall false false W28 [[]] 30 [119], none, []⟩ (fun r119 => [(120, .one (vw Packet.cod r119.1))]) (fun r119 => [(300000, some (.cells (lj r119.2.id_ :: lj r119.2.n :: lj r119.2.session :: .ptr 300001 0 :: zad r119.2.asked [lb r119.2.busy, lj r119.2.seq, lj r119.2.thing, lj r119.2.e]))), (300001, some (.cells [lj r119.2.v.client, lj r119.2.v.session, lj r119.2.v.n, lj r119.2.v.beat, lj r119.2.v.start, vw Thing.cod r119.2.v.things, .osl 300002 (0 + 1) 0 (r119.2.v.log_).length, .mp 300003])), (300002, some (.arr 58 Event.cod.sz (0 + 1) (r119.2.v.log_).length (zaa Event.cod r119.2.v.log_))), (300003, some (.map (zaj Key.cells Event.cod r119.2.v.wait)))]) (fun r119 hr => pe (gq (ks := W28) (ARGS := [qp 300000 0]) (F30_ok _ _ _ hr))) (fun r119 => ?_))
      refine SimI.rv 1 [] (.bn ⟨some 122, .gcall false false W59 [[]] 37 [121], none, []⟩ (fun r120 => [(122, .one (vw Packet.cod r120.1))]) (fun r120 => [(300004, some (.cells (lj r120.2.Me :: lj r120.2.N :: lj r120.2.Session :: lj r120.2.Seq :: lb r120.2.Busy :: zad r120.2.Ask [lj r120.2.E, lj r120.2.ID, .ptr 300005 0]))), (300005, some (.cells [lj r120.2.V.Client, lj r120.2.V.Session, lj r120.2.V.N, lj r120.2.V.Start, lj r120.2.V.Beat, vw Thing.cod r120.2.V.L, .osl 300006 (0 + 1) 0 (r120.2.V.Log).length, .osl 300007 (0 + 1) 0 (r120.2.V.Wait).length])), (300006, some (.arr 58 Event.cod.sz (0 + 1) (r120.2.V.Log).length (zaa Event.cod r120.2.V.Log))), (300007, some (.arr 32 Frame.cod.sz (0 + 1) (r120.2.V.Wait).length (zaa Frame.cod r120.2.V.Wait)))]) (fun r120 hr => pe (gq (ks := W59) (ARGS := [qp 300004 0]) (F37_ok _ _ _ hr))) (fun r120 => ?_))
      refine SimI.ru 2 [] (.thenN (.seq (.su 5 [] (.cd _ ?_ ?_))))
      ·exact Sim.su 1 [] (.ret (.thenR (.blockR (.thenR (.blockR (.thenR (.loopR (.blockR (.thenR .fn)))))))))
      ·refine Sim.skip (.thenN (.su 1 [] (.block (.loop (.pr [2, 7, 8, 9, 14, 15, 16] W33 [] [(2, .one (vw Step.cod a2)), (7, qp 300000 0), (8, qp 300004 0), (9, qj i71), (14, .one (vw Packet.cod r119.1)), (15, .one (vw Packet.cod r120.1)), (16, qj 0)] (W1 r119 r120) ?_)))))
       exact F9_l124_ok n a0 a1 a2 i71 r119 r120 (zbh n a2 m_l104) m_l104 ih_l104 (n + 8) 0
     ·refine Sim.sv 1 [] (.bn ⟨some 37, .gcall false false W8 [[]] 38 [36], none, []⟩ (fun r128 => [(37, tz)]) (fun r128 => [(300000, some (.cells [lj i73, lj i74, lj r128.1, .ptr 300008 0, lj 0, lj 0, lj 0, lj 0, lj 0, lj 0, lj 0, lj 0, lj 0, lj 0, lj 0, ls be, lj 0, ls be, lj 0, ls be, lj 0, ls be, lj 0, ls be, lj 0, lj 0, lj 0, lj 0, lj 0, lj 0, lj 0, lj 0, lj 0, lj 0, vw Thing.cod r128.2.1, vw Hand.cod r128.2.2.1, vw Thing.cod r128.2.2.2.1, vw Command.cod r128.2.2.2.2.1, lj 0, lj 0, lj 0, lj 0, lj 0, vw Event.cod r128.2.2.2.2.2.1, lj 0, lj 0, lb false, lj 0, lj 0, lj 0])), (300001, some (.cells [lj i80, lj i81, lj i82, lj i83, lj i84, vw Thing.cod l85, .osl 300002 (0 + 1) 0 (l86).length, .mp 300003])), (300002, some (.arr 58 Event.cod.sz (0 + 1) (l86).length (zaa Event.cod l86))), (300003, some (.map (zaj Key.cells Event.cod l87))), (300008, some (.cells [lj r128.2.2.2.2.2.2.1, lj r128.2.2.2.2.2.2.2.1, lj r128.2.2.2.2.2.2.2.2.1, lj r128.2.2.2.2.2.2.2.2.2.1, lj r128.2.2.2.2.2.2.2.2.2.2.1, vw Thing.cod r128.2.2.2.2.2.2.2.2.2.2.2.1, .osl 300009 0 0 (r128.2.2.2.2.2.2.2.2.2.2.2.2.1).length, .mp 300010])), (300009, some (.arr 58 Event.cod.sz 0 (r128.2.2.2.2.2.2.2.2.2.2.2.2.1).length (zaa Event.cod r128.2.2.2.2.2.2.2.2.2.2.2.2.1))), (300010, some (.map (zaj Key.cells Event.cod r128.2.2.2.2.2.2.2.2.2.2.2.2.2)))]) (fun r128 hr => pe (zar (ks := W28) (rks := []) (new := [300008, 300009, 300010]) (ARGS := [qp 300000 0]) (args1 := [qp 300000 0]) (args2 := [qp 1000000 0]) (os := [.cells (lj i73 :: lj i74 :: lj i75 :: .ptr 1000001 0 :: zad g72 [lb b76, lj i77, lj i78, lj i79]), .cells [lj i80, lj i81, lj i82, lj i83, lj i84, vw Thing.cod l85, .osl 1000002 0 0 (l86).length, .mp 1000003], .arr 58 Event.cod.sz 0 (l86).length (zaa Event.cod l86), .map (zaj Key.cells Event.cod l87)]) (os' := [.cells [lj i73, lj i74, lj r128.1, .ptr 1000004 0, lj 0, lj 0, lj 0, lj 0, lj 0, lj 0, lj 0, lj 0, lj 0, lj 0, lj 0, ls be, lj 0, ls be, lj 0, ls be, lj 0, ls be, lj 0, ls be, lj 0, lj 0, lj 0, lj 0, lj 0, lj 0, lj 0, lj 0, lj 0, lj 0, vw Thing.cod r128.2.1, vw Hand.cod r128.2.2.1, vw Thing.cod r128.2.2.2.1, vw Command.cod r128.2.2.2.2.1, lj 0, lj 0, lj 0, lj 0, lj 0, vw Event.cod r128.2.2.2.2.2.1, lj 0, lj 0, lb false, lj 0, lj 0, lj 0], .cells [lj i80, lj i81, lj i82, lj i83, lj i84, vw Thing.cod l85, .osl 1000002 1 0 (l86).length, .mp 1000003], .arr 58 Event.cod.sz 1 (l86).length (zaa Event.cod l86), .map (zaj Key.cells Event.cod l87), .cells [lj r128.2.2.2.2.2.2.1, lj r128.2.2.2.2.2.2.2.1, lj r128.2.2.2.2.2.2.2.2.1, lj r128.2.2.2.2.2.2.2.2.2.1, lj r128.2.2.2.2.2.2.2.2.2.2.1, vw Thing.cod r128.2.2.2.2.2.2.2.2.2.2.2.1, .osl 1000005 0 0 (r128.2.2.2.2.2.2.2.2.2.2.2.2.1).length, .mp 1000006], .arr 58 Event.cod.sz 0 (r128.2.2.2.2.2.2.2.2.2.2.2.2.1).length (zaa Event.cod r128.2.2.2.2.2.2.2.2.2.2.2.2.1), .map (zaj Key.cells Event.cod r128.2.2.2.2.2.2.2.2.2.2.2.2.2)]) (os1 := [.cells [lj i73, lj i74, lj r128.1, .ptr 1000004 0, lj 0, lj 0, lj 0, lj 0, lj 0, lj 0, lj 0, lj 0, lj 0, lj 0, lj 0, ls be, lj 0, ls be, lj 0, ls be, lj 0, ls be, lj 0, ls be, lj 0, lj 0, lj 0, lj 0, lj 0, lj 0, lj 0, lj 0, lj 0, lj 0, vw Thing.cod r128.2.1, vw Hand.cod r128.2.2.1, vw Thing.cod r128.2.2.2.1, vw Command.cod r128.2.2.2.2.1, lj 0, lj 0, lj 0, lj 0, lj 0, vw Event.cod r128.2.2.2.2.2.1, lj 0, lj 0, lb false, lj 0, lj 0, lj 0], .cells [lj i80, lj i81, lj i82, lj i83, lj i84, vw Thing.cod l85, .osl 1000002 1 0 (l86).length, .mp 1000003], .arr 58 Event.cod.sz 1 (l86).length (zaa Event.cod l86), .map (zaj Key.cells Event.cod l87), .cells [lj r128.2.2.2.2.2.2.1, lj r128.2.2.2.2.2.2.2.1, lj r128.2.2.2.2.2.2.2.2.1, lj r128.2.2.2.2.2.2.2.2.2.1, lj r128.2.2.2.2.2.2.2.2.2.2.1, vw Thing.cod r128.2.2.2.2.2.2.2.2.2.2.2.1, .osl 1000005 0 0 (r128.2.2.2.2.2.2.2.2.2.2.2.2.1).length, .mp 1000006], .arr 58 Event.cod.sz 0 (r128.2.2.2.2.2.2.2.2.2.2.2.2.1).length (zaa Event.cod r128.2.2.2.2.2.2.2.2.2.2.2.2.1), .map (zaj Key.cells Event.cod r128.2.2.2.2.2.2.2.2.2.2.2.2.2)]) (res := tz) (res1 := tz) (r := tz) (N := [(300000, some (.cells [lj i73, lj i74, lj r128.1, .ptr 300008 0, lj 0, lj 0, lj 0, lj 0, lj 0, lj 0, lj 0, lj 0, lj 0, lj 0, lj 0, ls be, lj 0, ls be, lj 0, ls be, lj 0, ls be, lj 0, ls be, lj 0, lj 0, lj 0, lj 0, lj 0, lj 0, lj 0, lj 0, lj 0, lj 0, vw Thing.cod r128.2.1, vw Hand.cod r128.2.2.1, vw Thing.cod r128.2.2.2.1, vw Command.cod r128.2.2.2.2.1, lj 0, lj 0, lj 0, lj 0, lj 0, vw Event.cod r128.2.2.2.2.2.1, lj 0, lj 0, lb false, lj 0, lj 0, lj 0])), (300001, some (.cells [lj i80, lj i81, lj i82, lj i83, lj i84, vw Thing.cod l85, .osl 300002 (0 + 1) 0 (l86).length, .mp 300003])), (300002, some (.arr 58 Event.cod.sz (0 + 1) (l86).length (zaa Event.cod l86))), (300003, some (.map (zaj Key.cells Event.cod l87))), (300008, some (.cells [lj r128.2.2.2.2.2.2.1, lj r128.2.2.2.2.2.2.2.1, lj r128.2.2.2.2.2.2.2.2.1, lj r128.2.2.2.2.2.2.2.2.2.1, lj r128.2.2.2.2.2.2.2.2.2.2.1, vw Thing.cod r128.2.2.2.2.2.2.2.2.2.2.2.1, .osl 300009 0 0 (r128.2.2.2.2.2.2.2.2.2.2.2.2.1).length, .mp 300010])), (300009, some (.arr 58 Event.cod.sz 0 (r128.2.2.2.2.2.2.2.2.2.2.2.2.1).length (zaa Event.cod r128.2.2.2.2.2.2.2.2.2.2.2.2.1))), (300010, some (.map (zaj Key.cells Event.cod r128.2.2.2.2.2.2.2.2.2.2.2.2.2)))]) (by kernel_rfl) (zax (zak (by kernel_rfl) (zas))) (by kernel_rfl) (by kernel_rfl) (by kernel_rfl) (by kernel_rfl) (F38s1_ok _ _ _ _ _ _ _ _ _ _ _ _ _ _ _ _ _ _ hr) (by kernel_rfl) (by kernel_rfl) (by kernel_rfl) rfl (by kernel_rfl) (by kernel_rfl) (by kernel_rfl))) (fun r128 => ?_))
      refine SimI.dn (.thenN (.region0 (.rv 1 [] (.bn ⟨some 39, .gcall false false W8 [[]] 39 [38], none, []⟩ (fun r129 => [(39, tz)]) (fun r129 => (W24 i89 i90 r129 g88 i96 i97 i98 i99 i100 l101 l102 l103)) (fun r129 hr => pe (zar (ks := W59) (rks := []) (new := [300011, 300012, 300013]) (ARGS := [qp 300004 0]) (args1 := [qp 300004 0]) (args2 := [qp 1000000 0]) (os := [.cells (lj i89 :: lj i90 :: lj i91 :: lj i92 :: lb b93 :: zad g88 [lj i94, lj i95, .ptr 1000001 0]), .cells [lj i96, lj i97, lj i98, lj i99, lj i100, vw Thing.cod l101, .osl 1000002 0 0 (l102).length, .osl 1000003 0 0 (l103).length], .arr 58 Event.cod.sz 0 (l102).length (zaa Event.cod l102), .arr 32 Frame.cod.sz 0 (l103).length (zaa Frame.cod l103)]) (os' := [.cells (lj i89 :: lj i90 :: lj r129.1 :: lj 0 :: lb false :: zad g88 [lj 0, lj 0, .ptr 1000004 0]), .cells [lj i96, lj i97, lj i98, lj i99, lj i100, vw Thing.cod l101, .osl 1000002 1 0 (l102).length, .osl 1000003 1 0 (l103).length], .arr 58 Event.cod.sz 1 (l102).length (zaa Event.cod l102), .arr 32 Frame.cod.sz 1 (l103).length (zaa Frame.cod l103), .cells (W82 r129), .arr 58 Event.cod.sz 0 (r129.2.2.2.2.2.2.2.1).length (zaa Event.cod r129.2.2.2.2.2.2.2.1), .arr 32 Frame.cod.sz 0 (r129.2.2.2.2.2.2.2.2).length (zaa Frame.cod r129.2.2.2.2.2.2.2.2)]) (os1 := [.cells (lj i89 :: lj i90 :: lj r129.1 :: lj 0 :: lb false :: zad g88 [lj 0, lj 0, .ptr 1000004 0]), .cells [lj i96, lj i97, lj i98, lj i99, lj i100, vw Thing.cod l101, .osl 1000002 1 0 (l102).length, .osl 1000003 1 0 (l103).length], .arr 58 Event.cod.sz 1 (l102).length (zaa Event.cod l102), .arr 32 Frame.cod.sz 1 (l103).length (zaa Frame.cod l103), .cells (W82 r129), .arr 58 Event.cod.sz 0 (r129.2.2.2.2.2.2.2.1).length (zaa Event.cod r129.2.2.2.2.2.2.2.1), .arr 32 Frame.cod.sz 0 (r129.2.2.2.2.2.2.2.2).length (zaa Frame.cod r129.2.2.2.2.2.2.2.2)]) (res := tz) (res1 := tz) (r := tz) (N := (W24 i89 i90 r129 g88 i96 i97 i98 i99 i100 l101 l102 l103)) (by kernel_rfl) (zax (zak (by kernel_rfl) (zas))) (by kernel_rfl) (by kernel_rfl) (by kernel_rfl) (by kernel_rfl) (F39s0_ok _ _ _ _ _ _ _ _ _ _ _ _ _ _ _ _ _ _ hr) (by kernel_rfl) (by kernel_rfl) (by kernel_rfl) rfl (by kernel_rfl) (by kernel_rfl) (by kernel_rfl))) (fun r129 => ?_)))))
      refine SimI.dn (.blockN (.thenN (.pr [2, 7, 8, 9] W26 k10' (W22 a2 i71) [(300000, some (.cells [lj i73, lj i74, lj r128.1, .ptr 300001 0, lj 0, lj 0, lj 0, lj 0, lj 0, lj 0, lj 0, lj 0, lj 0, lj 0, lj 0, ls be, lj 0, ls be, lj 0, ls be, lj 0, ls be, lj 0, ls be, lj 0, lj 0, lj 0, lj 0, lj 0, lj 0, lj 0, lj 0, lj 0, lj 0, vw Thing.cod r128.2.1, vw Hand.cod r128.2.2.1, vw Thing.cod r128.2.2.2.1, vw Command.cod r128.2.2.2.2.1, lj 0, lj 0, lj 0, lj 0, lj 0, vw Event.cod r128.2.2.2.2.2.1, lj 0, lj 0, lb false, lj 0, lj 0, lj 0])), (300001, some (.cells [lj r128.2.2.2.2.2.2.1, lj r128.2.2.2.2.2.2.2.1, lj r128.2.2.2.2.2.2.2.2.1, lj r128.2.2.2.2.2.2.2.2.2.1, lj r128.2.2.2.2.2.2.2.2.2.2.1, vw Thing.cod r128.2.2.2.2.2.2.2.2.2.2.2.1, .osl 300002 0 0 (r128.2.2.2.2.2.2.2.2.2.2.2.2.1).length, .mp 300003])), (300002, some (.arr 58 Event.cod.sz 0 (r128.2.2.2.2.2.2.2.2.2.2.2.2.1).length (zaa Event.cod r128.2.2.2.2.2.2.2.2.2.2.2.2.1))), (300003, some (.map (zaj Key.cells Event.cod r128.2.2.2.2.2.2.2.2.2.2.2.2.2))), (300004, some (.cells (lj i89 :: lj i90 :: lj r129.1 :: lj 0 :: lb false :: zad g88 [lj 0, lj 0, .ptr 300005 0]))), (300005, some (.cells [lj r129.2.1, lj r129.2.2.1, lj r129.2.2.2.1, lj r129.2.2.2.2.1, lj r129.2.2.2.2.2.1, vw Thing.cod r129.2.2.2.2.2.2.1, .osl 300006 0 0 (r129.2.2.2.2.2.2.2.1).length, .osl 300007 0 0 (r129.2.2.2.2.2.2.2.2).length])), (300006, some (.arr 58 Event.cod.sz 0 (r129.2.2.2.2.2.2.2.1).length (zaa Event.cod r129.2.2.2.2.2.2.2.1))), (300007, some (.arr 32 Frame.cod.sz 0 (r129.2.2.2.2.2.2.2.2).length (zaa Frame.cod r129.2.2.2.2.2.2.2.2)))] ?_)))
      exact zdj n a0 a1 a2 i71 (zbh n a2 m_l104) m_l104 ih_l104 (Packet.mk 0 0 0 0 (Command.mk 0 0 0 0 (Point.mk 0 0) (A4.mk (Field.mk 0 be) (Field.mk 0 be) (Field.mk 0 be) (Field.mk 0 be)) (Field.mk 0 be) 0 0 (Rect.mk 0 0 0 0)) 0 0 (Note.mk 0 0 r128.2.1 r128.2.2.1 r128.2.2.2.1 r128.2.2.2.2.1) (Frame.mk 0 0 0 0 0 r128.2.2.2.2.2.1) 0 0) i73 i74 r128.1 false 0 0 0 r128.2.2.2.2.2.2.1 r128.2.2.2.2.2.2.2.1 r128.2.2.2.2.2.2.2.2.1 r128.2.2.2.2.2.2.2.2.2.1 r128.2.2.2.2.2.2.2.2.2.2.1 r128.2.2.2.2.2.2.2.2.2.2.2.1 r128.2.2.2.2.2.2.2.2.2.2.2.2.1 r128.2.2.2.2.2.2.2.2.2.2.2.2.2 g88 i89 i90 r129.1 0 false 0 0 r129.2.1 r129.2.2.1 r129.2.2.2.1 r129.2.2.2.2.1 r129.2.2.2.2.2.1 r129.2.2.2.2.2.2.1 r129.2.2.2.2.2.2.2.1 r129.2.2.2.2.2.2.2.2
  ·exact Sim.exit (.thenX (.loopX (.blockX (.thenN (.su 1 [] (.ret .fn))))))
def F9 (n : Nat) (a0 a1 : Int) (a2 : (List Step)) : Option Bool :=
 ((some true)).bind fun (r1 : Bool) =>
 if !(r1) then
  some false
 else
  (F31 n a2).bind fun (r2 : Bool) =>
  if !(r2) then
   some true
  else
   (F27 n a0 a1).bind fun (r3 : Client) =>
   (F32 n a0 a1).bind fun (r4 : Client_vedetteref23) =>
   zbh n a2 (n + 8) 0 r3.asked r3.id_ r3.n r3.session r3.busy r3.seq r3.thing r3.e r3.v.client r3.v.session r3.v.n r3.v.beat r3.v.start r3.v.things r3.v.log_ r3.v.wait r4.Ask r4.Me r4.N r4.Session r4.Seq r4.Busy r4.E r4.ID r4.V.Client r4.V.Session r4.V.N r4.V.Start r4.V.Beat r4.V.L r4.V.Log r4.V.Wait
theorem F9_ok (n : Nat) (a0 a1 : Int) (a2 : (List Step)) : ∀ r, F9 n a0 a1 a2 = some r → D 9 [.one (li .i64 a0), .one (li .i64 a1), .one (vw Step.cod a2)] [] = some (F9_e r) := by
 refine zan (D := D) (n := n + 8) (nt := 208) (rs := pc9_r) (c := p9c108) (L := [(0, qj a0), (1, qj a1), (2, .one (vw Step.cod a2))]) (M := []) (k := 0) rfl rfl rfl rfl rfl rfl rfl ?_
 unfold F9
 refine Sim.su 1 [] (.seq (.seq (.region0 (.cl 19 true [] 25 [] none (fun r1 => qb r1) [] (F25_ok n) (fun r1 => ?_)))))
 refine SimI.ru 1 [] (.thenN (.cd _ ?_ ?_))
 ·exact Sim.su 1 [] (.ret (.thenR .fn))
 ·refine Sim.skip (.thenN (.seq (.sv 1 [] (.cl 22 true [[(0, 66)]] 31 [21] none (fun r2 => qb r2) [.one (vw Step.cod a2)] (F31_ok _ _) (fun r2 => ?_)))))
  refine SimI.ru 1 [] (.thenN (.cd _ ?_ ?_))
  ·exact Sim.su 1 [] (.ret (.thenR .fn))
  ·refine Sim.skip (.thenN (.sv 2 [] (.bn ⟨some 26, .gcall false false W8 [[], []] 27 [24, 25], none, []⟩ (fun r3 => [(26, qp 300000 0)]) (fun r3 => (W30 r3)) (fun r3 hr => pe (zar (ks := []) (rks := []) (new := W28) (ARGS := [qj a0, qj a1]) (args1 := [qj a0, qj a1]) (args2 := [qj a0, qj a1]) (os := []) (os' := [.cells (lj r3.id_ :: lj r3.n :: lj r3.session :: .ptr 1000001 0 :: zad r3.asked (W70 r3)), .cells (W72 r3), .arr 58 Event.cod.sz 0 (r3.v.log_).length (zaa Event.cod r3.v.log_), .map (zaj Key.cells Event.cod r3.v.wait)]) (os1 := [.cells (lj r3.id_ :: lj r3.n :: lj r3.session :: .ptr 1000001 0 :: zad r3.asked (W70 r3)), .cells (W72 r3), .arr 58 Event.cod.sz 0 (r3.v.log_).length (zaa Event.cod r3.v.log_), .map (zaj Key.cells Event.cod r3.v.wait)]) (res := qp 1000000 0) (res1 := qp 1000000 0) (r := qp 300000 0) (N := (W30 r3)) (by kernel_rfl) (zax (zak (by kernel_rfl) (zak (by kernel_rfl) (zas)))) (by kernel_rfl) (by kernel_rfl) (by kernel_rfl) (by kernel_rfl) (F27_ok _ _ _ _ hr) (by kernel_rfl) (by kernel_rfl) (by kernel_rfl) rfl (by kernel_rfl) (by kernel_rfl) (by kernel_rfl))) (fun r3 => ?_))))
   refine SimI.rv 2 [] (.bn ⟨some 29, .gcall false false W8 [[], []] 32 [27, 28], none, []⟩ (fun r4 => [(29, qp 300004 0)]) (fun r4 => [(300004, some (.cells (lj r4.Me :: lj r4.N :: lj r4.Session :: lj r4.Seq :: lb r4.Busy :: zad r4.Ask [lj r4.E, lj r4.ID, .ptr 300005 0]))), (300005, some (.cells (w22 r4))), (300006, some (.arr 58 Event.cod.sz 0 (r4.V.Log).length (zaa Event.cod r4.V.Log))), (300007, some (.arr 32 Frame.cod.sz 0 (r4.V.Wait).length (zaa Frame.cod r4.V.Wait)))]) (fun r4 hr => pe (zar (ks := []) (rks := []) (new := W59) (ARGS := [qj a0, qj a1]) (args1 := [qj a0, qj a1]) (args2 := [qj a0, qj a1]) (os := []) (os' := [.cells (lj r4.Me :: lj r4.N :: lj r4.Session :: lj r4.Seq :: lb r4.Busy :: zad r4.Ask (W46 r4)), .cells (w11 r4), .arr 58 Event.cod.sz 0 (r4.V.Log).length (zaa Event.cod r4.V.Log), .arr 32 Frame.cod.sz 0 (r4.V.Wait).length (zaa Frame.cod r4.V.Wait)]) (os1 := [.cells (lj r4.Me :: lj r4.N :: lj r4.Session :: lj r4.Seq :: lb r4.Busy :: zad r4.Ask (W46 r4)), .cells (w11 r4), .arr 58 Event.cod.sz 0 (r4.V.Log).length (zaa Event.cod r4.V.Log), .arr 32 Frame.cod.sz 0 (r4.V.Wait).length (zaa Frame.cod r4.V.Wait)]) (res := qp 1000000 0) (res1 := qp 1000000 0) (r := qp 300004 0) (N := [(300004, some (.cells (lj r4.Me :: lj r4.N :: lj r4.Session :: lj r4.Seq :: lb r4.Busy :: zad r4.Ask [lj r4.E, lj r4.ID, .ptr 300005 0]))), (300005, some (.cells (w22 r4))), (300006, some (.arr 58 Event.cod.sz 0 (r4.V.Log).length (zaa Event.cod r4.V.Log))), (300007, some (.arr 32 Frame.cod.sz 0 (r4.V.Wait).length (zaa Frame.cod r4.V.Wait)))]) (by kernel_rfl) (zax (zak (by kernel_rfl) (zak (by kernel_rfl) (zas)))) (by kernel_rfl) (by kernel_rfl) (by kernel_rfl) (by kernel_rfl) (F32_ok _ _ _ _ hr) (by kernel_rfl) (by kernel_rfl) (by kernel_rfl) rfl (by kernel_rfl) (by kernel_rfl) (by kernel_rfl))) (fun r4 => ?_))
   refine SimI.ru 2 [] (.thenN (.seq (.su 1 [] (.block (.loop (.pr [2, 7, 8, 9] W33 [] [(2, .one (vw Step.cod a2)), (7, qp 300000 0), (8, qp 300004 0), (9, qj 0)] [(300000, some (.cells (lj r3.id_ :: lj r3.n :: lj r3.session :: .ptr 300001 0 :: zad r3.asked (W70 r3)))), (300001, some (.cells [lj r3.v.client, lj r3.v.session, lj r3.v.n, lj r3.v.beat, lj r3.v.start, vw Thing.cod r3.v.things, .osl 300002 0 0 (r3.v.log_).length, .mp 300003])), (300002, some (.arr 58 Event.cod.sz 0 (r3.v.log_).length (zaa Event.cod r3.v.log_))), (300003, some (.map (zaj Key.cells Event.cod r3.v.wait))), (300004, some (.cells (lj r4.Me :: lj r4.N :: lj r4.Session :: lj r4.Seq :: lb r4.Busy :: zad r4.Ask [lj r4.E, lj r4.ID, .ptr 300005 0]))), (300005, some (.cells (w22 r4))), (300006, some (.arr 58 Event.cod.sz 0 (r4.V.Log).length (zaa Event.cod r4.V.Log))), (300007, some (.arr 32 Frame.cod.sz 0 (r4.V.Wait).length (zaa Frame.cod r4.V.Wait)))] ?_))))))
   exact F9_l104_ok n a0 a1 a2 (n + 8) 0 r3.asked r3.id_ r3.n r3.session r3.busy r3.seq r3.thing r3.e r3.v.client r3.v.session r3.v.n r3.v.beat r3.v.start r3.v.things r3.v.log_ r3.v.wait r4.Ask r4.Me r4.N r4.Session r4.Seq r4.Busy r4.E r4.ID r4.V.Client r4.V.Session r4.V.N r4.V.Start r4.V.Beat r4.V.L r4.V.Log r4.V.Wait
end Go.Proofs.Ythdabpmcojmhhaa
