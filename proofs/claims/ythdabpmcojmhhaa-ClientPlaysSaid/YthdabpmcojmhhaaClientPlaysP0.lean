/- No condition. -/
import Derived.Test.YthdabpmcojmhhaaClientPlaysE
namespace Go.Proofs.Ythdabpmcojmhhaa
open Go Go.Rx
set_option maxRecDepth 100000
set_option linter.unusedVariables false
set_option linter.unusedSimpArgs false
set_option linter.unnecessarySimpa false
set_option linter.unnecessarySimpa false
def F17_e : (Int × View) → PV × List Ob := fun r => (.one (li .i64 r.1), [.cells [li .i64 r.2.client, li .i64 r.2.session, li .i64 r.2.n, li .i64 r.2.beat, li .i64 r.2.start, vw Thing.cod r.2.things, .osl 1000001 1 0 (r.2.log_).length, .mp 1000002], .arr 58 Event.cod.sz 1 (r.2.log_).length (zaa Event.cod r.2.log_), .map (zaj Key.cells Event.cod r.2.wait)])
def F17 (n : Nat) (a0 : View) : Option (Int × View) :=
 some (a0.beat, a0)
theorem F17_ok (n : Nat) (a0 : View) : ∀ r, F17 n a0 = some r → D 17 [.one (.ptr 1000000 0)] [.cells [li .i64 a0.client, li .i64 a0.session, li .i64 a0.n, li .i64 a0.beat, li .i64 a0.start, vw Thing.cod a0.things, .osl 1000001 0 0 (a0.log_).length, .mp 1000002], .arr 58 Event.cod.sz 0 (a0.log_).length (zaa Event.cod a0.log_), .map (zaj Key.cells Event.cod a0.wait)] = some (F17_e r) := by
 refine zan (D := D) (n := n + 8) (nt := 7) (rs := pc17_r) (c := p17c5) (L := [(0, qp 1000000 0)]) (M := (W9 a0)) (k := 3) rfl rfl rfl rfl rfl rfl rfl ?_
 unfold F17
 exact Sim.su 1 [] (.su 5 [] (.ret .fn))
def F19_e : Bool → PV × List Ob := fun r => (.one (lb r), [])
def F19_l4 (n : Nat) (a0 a1 : (List Thing)) : Nat → Int → Option Bool
 | 0, _ => none
 | m + 1, i3 =>
  if decide (i3 < ((a0).length : Int)) then
   (ix a0 i3).bind fun (x5 : Thing) =>
   (ix a1 i3).bind fun (x6 : Thing) =>
   if !(Thing.eqb x5 x6) then
    some false
   else
    (F19_l4 n a0 a1 m) (IntKind.wrap .i64 (i3 + 1))
  else
   some true
theorem F19_l4_ok (n : Nat) (a0 a1 : (List Thing)) : ∀ (m : Nat) (i3 : Int), SimL Try.prog D (n + 8) m p19c25 [(0, .one (vw Thing.cod a0)), (1, .one (vw Thing.cod a1)), (5, qj i3)] [] (F19_l4 n a0 a1 m i3) (QB 0 (QT Try.prog D (n + 8) p19c31 (QF false pc19_r 0 F19_e))) := by
 intro m_l4
 induction m_l4 with
 | zero => intro i3; exact SimL.zero'  rfl
 | succ m_l4 ih_l4 =>
  intro i3
  refine SimL.succ ?_
  unfold F19_l4
  refine Sim.seq (.seq (.rg [(0, .one (vw Thing.cod a0)), (1, .one (vw Thing.cod a1)), (5, qj i3)] [] (.ru 4 [] (.thenN (.cd _ ?_ ?_)))))
  ·refine Sim.skip (.thenN (.seq (.block (.sv 2 [] (.bn ⟨some 19, .iaddrS 11 17 18, none, [(17, .imm), (18, .imm)]⟩ (fun x5 => [(19, .one (.eptr (Thing.cod.enc x5) 0))]) (fun x5 => []) (fun x5 hr => pe (ei (c := Thing.cod) (k := .i64) hr)) (fun x5 => ?_))))))
   refine SimI.rv 3 [] (.bn ⟨some 23, .iaddrS 11 21 22, none, [(21, .imm), (22, .imm)]⟩ (fun x6 => [(23, .one (.eptr (Thing.cod.enc x6) 0))]) (fun x6 => []) (fun x6 hr => pe (ei (c := Thing.cod) (k := .i64) hr)) (fun x6 => ?_))
   refine SimI.rv 1 [] (.se ⟨some 25, .prim (.bin .neq 54 false false) [20, 24], none, [(20, .imm), (24, .imm)]⟩ [(25, qb (!(Thing.eqb x5 x6)))] [] (pe (ep (Thing_eqn x5 x6 _ _))) (.dn (.thenN (.cd _ ?_ ?_))))
   ·exact Sim.su 1 [] (.ret (.blockR (.thenR (.loopR (.blockR (.thenR .fn))))))
   ·refine Sim.skip (.blockN (.thenN (.region0 (.ru 3 [] (.loopN (.pr [0, 1, 5] [] [] [(0, .one (vw Thing.cod a0)), (1, .one (vw Thing.cod a1)), (5, qj (iw .i64 (i3 + 1)))] [] ?_))))))
    exact ih_l4 (iw .i64 (i3 + 1))
  ·exact Sim.exit (.thenX (.loopX (.blockX (.thenN (.su 1 [] (.ret .fn))))))
def F19 (n : Nat) (a0 a1 : (List Thing)) : Option Bool :=
 if ((a0).length : Int) != ((a1).length : Int) then
  some false
 else
  F19_l4 n a0 a1 (n + 8) 0
theorem F19_ok (n : Nat) (a0 a1 : (List Thing)) : ∀ r, F19 n a0 a1 = some r → D 19 [.one (vw Thing.cod a0), .one (vw Thing.cod a1)] [] = some (F19_e r) := by
 refine zan (D := D) (n := n + 8) (nt := 26) (rs := pc19_r) (c := p19c34) (L := [(0, .one (vw Thing.cod a0)), (1, .one (vw Thing.cod a1))]) (M := []) (k := 0) rfl rfl rfl rfl rfl rfl rfl ?_
 unfold F19
 refine Sim.su 1 [] (.seq (.su 5 [] (.cd _ ?_ ?_)))
 ·exact Sim.su 1 [] (.ret (.thenR .fn))
 ·refine Sim.skip (.thenN (.seq (.su 1 [] (.block (.loop (.pr [0, 1, 5] [] [] [(0, .one (vw Thing.cod a0)), (1, .one (vw Thing.cod a1)), (5, qj 0)] [] ?_))))))
  exact F19_l4_ok n a0 a1 (n + 8) 0
def F20_e : ((List Thing) × View) → PV × List Ob := fun r => (.one (vw Thing.cod r.1), [.cells [li .i64 r.2.client, li .i64 r.2.session, li .i64 r.2.n, li .i64 r.2.beat, li .i64 r.2.start, vw Thing.cod r.2.things, .osl 1000001 1 0 (r.2.log_).length, .mp 1000002], .arr 58 Event.cod.sz 1 (r.2.log_).length (zaa Event.cod r.2.log_), .map (zaj Key.cells Event.cod r.2.wait)])
def F20 (n : Nat) (a0 : View) : Option ((List Thing) × View) :=
 (zca a0.things).bind fun (l1 : (List Thing)) =>
 some (l1, a0)
theorem F20_ok (n : Nat) (a0 : View) : ∀ r, F20 n a0 = some r → D 20 [.one (.ptr 1000000 0)] [.cells [li .i64 a0.client, li .i64 a0.session, li .i64 a0.n, li .i64 a0.beat, li .i64 a0.start, vw Thing.cod a0.things, .osl 1000001 0 0 (a0.log_).length, .mp 1000002], .arr 58 Event.cod.sz 0 (a0.log_).length (zaa Event.cod a0.log_), .map (zaj Key.cells Event.cod a0.wait)] = some (F20_e r) := by
 refine zan (D := D) (n := n + 8) (nt := 8) (rs := pc20_r) (c := p20c5) (L := [(0, qp 1000000 0)]) (M := (W9 a0)) (k := 3) rfl rfl rfl rfl rfl rfl rfl ?_
 unfold F20
 refine Sim.su 1 [] (.sv 4 [] (.bn ⟨some 7, .gcall false true [399990, 399991] [[(0, 11)]] 50 [6], none, []⟩ (fun l1 => [(7, .one (vw Thing.cod l1))]) (fun l1 => []) (fun l1 hr => pe (zar (ks := []) (rks := []) (new := [399990]) (ARGS := [.one (vw Thing.cod a0.things)]) (args1 := [.one (vw Thing.cod a0.things)]) (args2 := [.one (vw Thing.cod a0.things)]) (os := []) (os' := [.arr 54 Thing.cod.sz 0 (l1).length (zaa Thing.cod l1)]) (os1 := [.arr 54 Thing.cod.sz 0 (l1).length (zaa Thing.cod l1)]) (res := .one (.osl 1000000 0 0 (l1).length)) (res1 := .one (vw Thing.cod l1)) (r := .one (vw Thing.cod l1)) (N := []) (by kernel_rfl) (zax (zak (by kernel_rfl) (zas))) (by kernel_rfl) (by kernel_rfl) (by kernel_rfl) (by kernel_rfl) (D_b50 (l := a0.things) (r := l1) hr) (by kernel_rfl) (by kernel_rfl) (by kernel_rfl) (frz_new (c := Thing.cod) 54 l1) (by kernel_rfl) (by kernel_rfl) (by kernel_rfl))) (fun l1 => ?_)))
 exact SimI.ru 1 [] (.thenN (.ret .fn))
def F13_e : View → PV × List Ob := fun r => (.one (.ptr 1000000 0), [.cells [li .i64 r.client, li .i64 r.session, li .i64 r.n, li .i64 r.beat, li .i64 r.start, vw Thing.cod r.things, .osl 1000001 0 0 (r.log_).length, .mp 1000002], .arr 58 Event.cod.sz 0 (r.log_).length (zaa Event.cod r.log_), .map (zaj Key.cells Event.cod r.wait)])
def F13 (n : Nat) (a0 a1 a2 : Int) : Option View :=
 some (View.mk a0 a1 (imin (imax a2 1) 4) (-1) (-1) ([] : List Thing) ([] : List Event) ([] : (List (Key × (List Event)))))
theorem F13_ok (n : Nat) (a0 a1 a2 : Int) : ∀ r, F13 n a0 a1 a2 = some r → D 13 [.one (li .i64 a0), .one (li .i64 a1), .one (li .i64 a2)] [] = some (F13_e r) := by
 refine zan (D := D) (n := n + 8) (nt := 15) (rs := pc13_r) (c := p13c5) (L := [(0, qj a0), (1, qj a1), (2, qj a2)]) (M := []) (k := 0) rfl rfl rfl rfl rfl rfl rfl ?_
 unfold F13
 exact Sim.su 1 [] (.su 9 [(14, some (.cells [lj a0, lj a1, lj (imin (imax a2 1) 4), lj (-1), lj (-1), vw Thing.cod ([] : List Thing), .osl 400113 0 0 (([] : List Event)).length, .mp 12])), (400113, some (.arr 58 Event.cod.sz 0 (([] : List Event)).length (zaa Event.cod ([] : List Event)))), (12, some (.map (zaj Key.cells Event.cod ([] : (List (Key × (List Event)))))))] (.ret .fn))
def F38s0_e (a0 a1 a2 : Int) (a3 : Packet) (a4 : Bool) (a5 a6 a7 : Int) : (Int × (List Thing) × (List Hand) × (List Thing) × (List Command) × (List Event) × Int × Int × Int × Int × Int × (List Thing) × (List Event) × (List (Key × (List Event)))) → PV × List Ob := fun r => (.tup [], [.cells [li .i64 a0, li .i64 a1, li .i64 r.1, .ptr 1000001 0, li .i64 0, li .i64 0, li .i64 0, li .i64 0, li .i64 0, li .i64 0, li .i64 0, li .i64 0, li .i64 0, li .i64 0, li .i64 0, ls ByteArray.empty, li .i64 0, ls ByteArray.empty, li .i64 0, ls ByteArray.empty, li .i64 0, ls ByteArray.empty, li .i64 0, ls ByteArray.empty, li .i64 0, li .i64 0, li .i64 0, li .i64 0, li .i64 0, li .i64 0, li .i64 0, li .i64 0, li .i64 0, li .i64 0, vw Thing.cod r.2.1, vw Hand.cod r.2.2.1, vw Thing.cod r.2.2.2.1, vw Command.cod r.2.2.2.2.1, li .i64 0, li .i64 0, li .i64 0, li .i64 0, li .i64 0, vw Event.cod r.2.2.2.2.2.1, li .i64 0, li .i64 0, lb false, li .i64 0, li .i64 0, li .i64 0], .cells [li .i64 r.2.2.2.2.2.2.1, li .i64 r.2.2.2.2.2.2.2.1, li .i64 r.2.2.2.2.2.2.2.2.1, li .i64 r.2.2.2.2.2.2.2.2.2.1, li .i64 r.2.2.2.2.2.2.2.2.2.2.1, vw Thing.cod r.2.2.2.2.2.2.2.2.2.2.2.1, .osl 1000002 0 0 (r.2.2.2.2.2.2.2.2.2.2.2.2.1).length, .mp 1000003], .arr 58 Event.cod.sz 0 (r.2.2.2.2.2.2.2.2.2.2.2.2.1).length (zaa Event.cod r.2.2.2.2.2.2.2.2.2.2.2.2.1), .map (zaj Key.cells Event.cod r.2.2.2.2.2.2.2.2.2.2.2.2.2)])
def F38s0 (n : Nat) (a0 a1 a2 : Int) (a3 : Packet) (a4 : Bool) (a5 a6 a7 : Int) : Option (Int × (List Thing) × (List Hand) × (List Thing) × (List Command) × (List Event) × Int × Int × Int × Int × Int × (List Thing) × (List Event) × (List (Key × (List Event)))) :=
 (F13 n a0 (IntKind.wrap .i64 (a2 + 1)) a1).bind fun (r1 : View) =>
 some ((IntKind.wrap .i64 (a2 + 1)), ([] : List Thing), ([] : List Hand), ([] : List Thing), ([] : List Command), ([] : List Event), r1.client, r1.session, r1.n, r1.beat, r1.start, r1.things, r1.log_, r1.wait)
theorem F38s0_ok (n : Nat) (a0 a1 a2 : Int) (a3 : Packet) (a4 : Bool) (a5 a6 a7 : Int) : ∀ r, F38s0 n a0 a1 a2 a3 a4 a5 a6 a7 = some r → D 38 [.one (.ptr 1000000 0)] [.cells (li .i64 a0 :: li .i64 a1 :: li .i64 a2 :: .val (.pointer none) :: zad a3 [lb a4, li .i64 a5, li .i64 a6, li .i64 a7])] = some ((F38s0_e a0 a1 a2 a3 a4 a5 a6 a7) r) := by
 refine zan (D := D) (n := n + 8) (nt := 41) (rs := pc38_r) (c := p38c5) (L := [(0, qp 1000000 0)]) (M := [(1000000, some (.cells (lj a0 :: lj a1 :: lj a2 :: .val (.pointer none) :: zad a3 [lb a4, lj a5, lj a6, lj a7])))]) (k := 1) rfl rfl rfl rfl rfl rfl rfl ?_
 unfold F38s0
 refine Sim.su 8 [(1000000, some (.cells (lj a0 :: lj a1 :: lj (iw .i64 (a2 + 1)) :: .val (.pointer none) :: zad a3 [lb a4, lj a5, lj a6, lj a7])))] (.sv 13 [] (.bn ⟨some 22, .gcall false false W8 [[], [], []] 13 [13, 17, 21], none, [(13, .imm), (17, .imm), (21, .imm)]⟩ (fun r1 => [(22, qp 300000 0)]) (fun r1 => (W14 r1)) (fun r1 hr => pe (zar (ks := []) (rks := []) (new := [300000, 300001, 300002]) (ARGS := [qj a0, qj (iw .i64 (a2 + 1)), qj a1]) (args1 := [qj a0, qj (iw .i64 (a2 + 1)), qj a1]) (args2 := [qj a0, qj (iw .i64 (a2 + 1)), qj a1]) (os := []) (os' := [.cells (W39 r1), .arr 58 Event.cod.sz 0 (r1.log_).length (zaa Event.cod r1.log_), .map (zaj Key.cells Event.cod r1.wait)]) (os1 := [.cells (W39 r1), .arr 58 Event.cod.sz 0 (r1.log_).length (zaa Event.cod r1.log_), .map (zaj Key.cells Event.cod r1.wait)]) (res := qp 1000000 0) (res1 := qp 1000000 0) (r := qp 300000 0) (N := (W14 r1)) (by kernel_rfl) (zax (zak (by kernel_rfl) (zak (by kernel_rfl) (zak (by kernel_rfl) (zas))))) (by kernel_rfl) (by kernel_rfl) (by kernel_rfl) (by kernel_rfl) (F13_ok _ _ _ _ _ hr) (by kernel_rfl) (by kernel_rfl) (by kernel_rfl) rfl (by kernel_rfl) (by kernel_rfl) (by kernel_rfl))) (fun r1 => ?_)))
 exact SimI.ru 3 [(1000000, some (.cells (lj a0 :: lj a1 :: lj (iw .i64 (a2 + 1)) :: .ptr 300000 0 :: zad a3 [lb a4, lj a5, lj a6, lj a7])))] (.thenN (.region0 (.ru 21 [(1000000, some (.cells [lj a0, lj a1, lj (iw .i64 (a2 + 1)), .ptr 300000 0, lj 0, lj 0, lj 0, lj 0, lj 0, lj 0, lj 0, lj 0, lj 0, lj 0, lj 0, ls be, lj 0, ls be, lj 0, ls be, lj 0, ls be, lj 0, ls be, lj 0, lj 0, lj 0, lj 0, lj 0, lj 0, lj 0, lj 0, lj 0, lj 0, vw Thing.cod ([] : List Thing), vw Hand.cod ([] : List Hand), vw Thing.cod ([] : List Thing), vw Command.cod ([] : List Command), lj 0, lj 0, lj 0, lj 0, lj 0, vw Event.cod ([] : List Event), lj 0, lj 0, lb false, lj 0, lj 0, lj 0])), (1000000, some (.cells [lj a0, lj a1, lj (iw .i64 (a2 + 1)), .ptr 300000 0, lj 0, lj 0, lj 0, lj 0, lj 0, lj 0, lj 0, lj 0, lj 0, lj 0, lj 0, ls be, lj 0, ls be, lj 0, ls be, lj 0, ls be, lj 0, ls be, lj 0, lj 0, lj 0, lj 0, lj 0, lj 0, lj 0, lj 0, lj 0, lj 0, vw Thing.cod ([] : List Thing), vw Hand.cod ([] : List Hand), vw Thing.cod ([] : List Thing), vw Command.cod ([] : List Command), lj 0, lj 0, lj 0, lj 0, lj 0, vw Event.cod ([] : List Event), lj 0, lj 0, lb false, lj 0, lj 0, lj a7])), (1000000, some (.cells [lj a0, lj a1, lj (iw .i64 (a2 + 1)), .ptr 300000 0, lj 0, lj 0, lj 0, lj 0, lj 0, lj 0, lj 0, lj 0, lj 0, lj 0, lj 0, ls be, lj 0, ls be, lj 0, ls be, lj 0, ls be, lj 0, ls be, lj 0, lj 0, lj 0, lj 0, lj 0, lj 0, lj 0, lj 0, lj 0, lj 0, vw Thing.cod ([] : List Thing), vw Hand.cod ([] : List Hand), vw Thing.cod ([] : List Thing), vw Command.cod ([] : List Command), lj 0, lj 0, lj 0, lj 0, lj 0, vw Event.cod ([] : List Event), lj 0, lj 0, lb false, lj 0, lj a6, lj a7])), (1000000, some (.cells [lj a0, lj a1, lj (iw .i64 (a2 + 1)), .ptr 300000 0, lj 0, lj 0, lj 0, lj 0, lj 0, lj 0, lj 0, lj 0, lj 0, lj 0, lj 0, ls be, lj 0, ls be, lj 0, ls be, lj 0, ls be, lj 0, ls be, lj 0, lj 0, lj 0, lj 0, lj 0, lj 0, lj 0, lj 0, lj 0, lj 0, vw Thing.cod ([] : List Thing), vw Hand.cod ([] : List Hand), vw Thing.cod ([] : List Thing), vw Command.cod ([] : List Command), lj 0, lj 0, lj 0, lj 0, lj 0, vw Event.cod ([] : List Event), lj 0, lj 0, lb false, lj a5, lj a6, lj a7])), (1000000, some (.cells [lj a0, lj a1, lj (iw .i64 (a2 + 1)), .ptr 300000 0, lj 0, lj 0, lj 0, lj 0, lj 0, lj 0, lj 0, lj 0, lj 0, lj 0, lj 0, ls be, lj 0, ls be, lj 0, ls be, lj 0, ls be, lj 0, ls be, lj 0, lj 0, lj 0, lj 0, lj 0, lj 0, lj 0, lj 0, lj 0, lj 0, vw Thing.cod ([] : List Thing), vw Hand.cod ([] : List Hand), vw Thing.cod ([] : List Thing), vw Command.cod ([] : List Command), lj 0, lj 0, lj 0, lj 0, lj 0, vw Event.cod ([] : List Event), lj 0, lj 0, lb a4, lj a5, lj a6, lj a7]))] (.finN (by kernel_rfl)))))
def F38s1_e (a0 : (List Event)) (a1 a2 a3 : Int) (a4 : Packet) (a5 : Bool) (a6 a7 a8 a9 a10 a11 a12 a13 : Int) (a14 : (List Thing)) (a15 : (List (Key × (List Event)))) : (Int × (List Thing) × (List Hand) × (List Thing) × (List Command) × (List Event) × Int × Int × Int × Int × Int × (List Thing) × (List Event) × (List (Key × (List Event)))) → PV × List Ob := fun r => (.tup [], [.cells [li .i64 a1, li .i64 a2, li .i64 r.1, .ptr 1000004 0, li .i64 0, li .i64 0, li .i64 0, li .i64 0, li .i64 0, li .i64 0, li .i64 0, li .i64 0, li .i64 0, li .i64 0, li .i64 0, ls ByteArray.empty, li .i64 0, ls ByteArray.empty, li .i64 0, ls ByteArray.empty, li .i64 0, ls ByteArray.empty, li .i64 0, ls ByteArray.empty, li .i64 0, li .i64 0, li .i64 0, li .i64 0, li .i64 0, li .i64 0, li .i64 0, li .i64 0, li .i64 0, li .i64 0, vw Thing.cod r.2.1, vw Hand.cod r.2.2.1, vw Thing.cod r.2.2.2.1, vw Command.cod r.2.2.2.2.1, li .i64 0, li .i64 0, li .i64 0, li .i64 0, li .i64 0, vw Event.cod r.2.2.2.2.2.1, li .i64 0, li .i64 0, lb false, li .i64 0, li .i64 0, li .i64 0], .cells [li .i64 a9, li .i64 a10, li .i64 a11, li .i64 a12, li .i64 a13, vw Thing.cod a14, .osl 1000002 1 0 (a0).length, .mp 1000003], .arr 58 Event.cod.sz 1 (a0).length (zaa Event.cod a0), .map (zaj Key.cells Event.cod a15), .cells [li .i64 r.2.2.2.2.2.2.1, li .i64 r.2.2.2.2.2.2.2.1, li .i64 r.2.2.2.2.2.2.2.2.1, li .i64 r.2.2.2.2.2.2.2.2.2.1, li .i64 r.2.2.2.2.2.2.2.2.2.2.1, vw Thing.cod r.2.2.2.2.2.2.2.2.2.2.2.1, .osl 1000005 0 0 (r.2.2.2.2.2.2.2.2.2.2.2.2.1).length, .mp 1000006], .arr 58 Event.cod.sz 0 (r.2.2.2.2.2.2.2.2.2.2.2.2.1).length (zaa Event.cod r.2.2.2.2.2.2.2.2.2.2.2.2.1), .map (zaj Key.cells Event.cod r.2.2.2.2.2.2.2.2.2.2.2.2.2)])
def F38s1 (n : Nat) (a0 : (List Event)) (a1 a2 a3 : Int) (a4 : Packet) (a5 : Bool) (a6 a7 a8 a9 a10 a11 a12 a13 : Int) (a14 : (List Thing)) (a15 : (List (Key × (List Event)))) : Option (Int × (List Thing) × (List Hand) × (List Thing) × (List Command) × (List Event) × Int × Int × Int × Int × Int × (List Thing) × (List Event) × (List (Key × (List Event)))) :=
 (F13 n a1 (IntKind.wrap .i64 (a3 + 1)) a2).bind fun (r1 : View) =>
 some ((IntKind.wrap .i64 (a3 + 1)), ([] : List Thing), ([] : List Hand), ([] : List Thing), ([] : List Command), ([] : List Event), r1.client, r1.session, r1.n, r1.beat, r1.start, r1.things, r1.log_, r1.wait)
theorem F38s1_ok (n : Nat) (a0 : (List Event)) (a1 a2 a3 : Int) (a4 : Packet) (a5 : Bool) (a6 a7 a8 a9 a10 a11 a12 a13 : Int) (a14 : (List Thing)) (a15 : (List (Key × (List Event)))) : ∀ r, F38s1 n a0 a1 a2 a3 a4 a5 a6 a7 a8 a9 a10 a11 a12 a13 a14 a15 = some r → D 38 [.one (.ptr 1000000 0)] [.cells (li .i64 a1 :: li .i64 a2 :: li .i64 a3 :: .ptr 1000001 0 :: zad a4 [lb a5, li .i64 a6, li .i64 a7, li .i64 a8]), .cells [li .i64 a9, li .i64 a10, li .i64 a11, li .i64 a12, li .i64 a13, vw Thing.cod a14, .osl 1000002 0 0 (a0).length, .mp 1000003], .arr 58 Event.cod.sz 0 (a0).length (zaa Event.cod a0), .map (zaj Key.cells Event.cod a15)] = some ((F38s1_e a0 a1 a2 a3 a4 a5 a6 a7 a8 a9 a10 a11 a12 a13 a14 a15) r) := by
 refine zan (D := D) (n := n + 8) (nt := 41) (rs := pc38_r) (c := p38c5) (L := [(0, qp 1000000 0)]) (M := [(1000000, some (.cells (lj a1 :: lj a2 :: lj a3 :: .ptr 1000001 0 :: zad a4 [lb a5, lj a6, lj a7, lj a8]))), (1000001, some (.cells [lj a9, lj a10, lj a11, lj a12, lj a13, vw Thing.cod a14, .osl 1000002 0 0 (a0).length, .mp 1000003])), (1000002, some (.arr 58 Event.cod.sz 0 (a0).length (zaa Event.cod a0))), (1000003, some (.map (zaj Key.cells Event.cod a15)))]) (k := 4) rfl rfl rfl rfl rfl rfl rfl ?_
 unfold F38s1
 refine Sim.su 8 [(1000000, some (.cells (lj a1 :: lj a2 :: lj (iw .i64 (a3 + 1)) :: .ptr 1000001 0 :: zad a4 [lb a5, lj a6, lj a7, lj a8])))] (.sv 13 [] (.bn ⟨some 22, .gcall false false W8 [[], [], []] 13 [13, 17, 21], none, [(13, .imm), (17, .imm), (21, .imm)]⟩ (fun r1 => [(22, qp 300000 0)]) (fun r1 => (W14 r1)) (fun r1 hr => pe (zar (ks := []) (rks := []) (new := [300000, 300001, 300002]) (ARGS := [qj a1, qj (iw .i64 (a3 + 1)), qj a2]) (args1 := [qj a1, qj (iw .i64 (a3 + 1)), qj a2]) (args2 := [qj a1, qj (iw .i64 (a3 + 1)), qj a2]) (os := []) (os' := [.cells (W39 r1), .arr 58 Event.cod.sz 0 (r1.log_).length (zaa Event.cod r1.log_), .map (zaj Key.cells Event.cod r1.wait)]) (os1 := [.cells (W39 r1), .arr 58 Event.cod.sz 0 (r1.log_).length (zaa Event.cod r1.log_), .map (zaj Key.cells Event.cod r1.wait)]) (res := qp 1000000 0) (res1 := qp 1000000 0) (r := qp 300000 0) (N := (W14 r1)) (by kernel_rfl) (zax (zak (by kernel_rfl) (zak (by kernel_rfl) (zak (by kernel_rfl) (zas))))) (by kernel_rfl) (by kernel_rfl) (by kernel_rfl) (by kernel_rfl) (F13_ok _ _ _ _ _ hr) (by kernel_rfl) (by kernel_rfl) (by kernel_rfl) rfl (by kernel_rfl) (by kernel_rfl) (by kernel_rfl))) (fun r1 => ?_)))
 exact SimI.ru 3 [(1000000, some (.cells (lj a1 :: lj a2 :: lj (iw .i64 (a3 + 1)) :: .ptr 300000 0 :: zad a4 [lb a5, lj a6, lj a7, lj a8])))] (.thenN (.region0 (.ru 21 [(1000000, some (.cells [lj a1, lj a2, lj (iw .i64 (a3 + 1)), .ptr 300000 0, lj 0, lj 0, lj 0, lj 0, lj 0, lj 0, lj 0, lj 0, lj 0, lj 0, lj 0, ls be, lj 0, ls be, lj 0, ls be, lj 0, ls be, lj 0, ls be, lj 0, lj 0, lj 0, lj 0, lj 0, lj 0, lj 0, lj 0, lj 0, lj 0, vw Thing.cod ([] : List Thing), vw Hand.cod ([] : List Hand), vw Thing.cod ([] : List Thing), vw Command.cod ([] : List Command), lj 0, lj 0, lj 0, lj 0, lj 0, vw Event.cod ([] : List Event), lj 0, lj 0, lb false, lj 0, lj 0, lj 0])), (1000000, some (.cells [lj a1, lj a2, lj (iw .i64 (a3 + 1)), .ptr 300000 0, lj 0, lj 0, lj 0, lj 0, lj 0, lj 0, lj 0, lj 0, lj 0, lj 0, lj 0, ls be, lj 0, ls be, lj 0, ls be, lj 0, ls be, lj 0, ls be, lj 0, lj 0, lj 0, lj 0, lj 0, lj 0, lj 0, lj 0, lj 0, lj 0, vw Thing.cod ([] : List Thing), vw Hand.cod ([] : List Hand), vw Thing.cod ([] : List Thing), vw Command.cod ([] : List Command), lj 0, lj 0, lj 0, lj 0, lj 0, vw Event.cod ([] : List Event), lj 0, lj 0, lb false, lj 0, lj 0, lj a8])), (1000000, some (.cells [lj a1, lj a2, lj (iw .i64 (a3 + 1)), .ptr 300000 0, lj 0, lj 0, lj 0, lj 0, lj 0, lj 0, lj 0, lj 0, lj 0, lj 0, lj 0, ls be, lj 0, ls be, lj 0, ls be, lj 0, ls be, lj 0, ls be, lj 0, lj 0, lj 0, lj 0, lj 0, lj 0, lj 0, lj 0, lj 0, lj 0, vw Thing.cod ([] : List Thing), vw Hand.cod ([] : List Hand), vw Thing.cod ([] : List Thing), vw Command.cod ([] : List Command), lj 0, lj 0, lj 0, lj 0, lj 0, vw Event.cod ([] : List Event), lj 0, lj 0, lb false, lj 0, lj a7, lj a8])), (1000000, some (.cells [lj a1, lj a2, lj (iw .i64 (a3 + 1)), .ptr 300000 0, lj 0, lj 0, lj 0, lj 0, lj 0, lj 0, lj 0, lj 0, lj 0, lj 0, lj 0, ls be, lj 0, ls be, lj 0, ls be, lj 0, ls be, lj 0, ls be, lj 0, lj 0, lj 0, lj 0, lj 0, lj 0, lj 0, lj 0, lj 0, lj 0, vw Thing.cod ([] : List Thing), vw Hand.cod ([] : List Hand), vw Thing.cod ([] : List Thing), vw Command.cod ([] : List Command), lj 0, lj 0, lj 0, lj 0, lj 0, vw Event.cod ([] : List Event), lj 0, lj 0, lb false, lj a6, lj a7, lj a8])), (1000000, some (.cells [lj a1, lj a2, lj (iw .i64 (a3 + 1)), .ptr 300000 0, lj 0, lj 0, lj 0, lj 0, lj 0, lj 0, lj 0, lj 0, lj 0, lj 0, lj 0, ls be, lj 0, ls be, lj 0, ls be, lj 0, ls be, lj 0, ls be, lj 0, lj 0, lj 0, lj 0, lj 0, lj 0, lj 0, lj 0, lj 0, lj 0, vw Thing.cod ([] : List Thing), vw Hand.cod ([] : List Hand), vw Thing.cod ([] : List Thing), vw Command.cod ([] : List Command), lj 0, lj 0, lj 0, lj 0, lj 0, vw Event.cod ([] : List Event), lj 0, lj 0, lb a5, lj a6, lj a7, lj a8]))] (.finN (by kernel_rfl)))))
def F27_e : Client → PV × List Ob := fun r => (.one (.ptr 1000000 0), [.cells (li .i64 r.id_ :: li .i64 r.n :: li .i64 r.session :: .ptr 1000001 0 :: zad r.asked [lb r.busy, li .i64 r.seq, li .i64 r.thing, li .i64 r.e]), .cells [li .i64 r.v.client, li .i64 r.v.session, li .i64 r.v.n, li .i64 r.v.beat, li .i64 r.v.start, vw Thing.cod r.v.things, .osl 1000002 0 0 (r.v.log_).length, .mp 1000003], .arr 58 Event.cod.sz 0 (r.v.log_).length (zaa Event.cod r.v.log_), .map (zaj Key.cells Event.cod r.v.wait)])
def F27 (n : Nat) (a0 a1 : Int) : Option Client :=
 (F38s0 n (imin (imax a0 0) 3) (imin (imax a1 1) 4) 0 (Packet.mk 0 0 0 0 (Command.mk 0 0 0 0 (Point.mk 0 0) (A4.mk (Field.mk 0 ByteArray.empty) (Field.mk 0 ByteArray.empty) (Field.mk 0 ByteArray.empty) (Field.mk 0 ByteArray.empty)) (Field.mk 0 ByteArray.empty) 0 0 (Rect.mk 0 0 0 0)) 0 0 (Note.mk 0 0 ([] : List Thing) ([] : List Hand) ([] : List Thing) ([] : List Command)) (Frame.mk 0 0 0 0 0 ([] : List Event)) 0 0) false 0 0 0).bind fun (r1 : (Int × (List Thing) × (List Hand) × (List Thing) × (List Command) × (List Event) × Int × Int × Int × Int × Int × (List Thing) × (List Event) × (List (Key × (List Event))))) =>
 some (Client.mk (imin (imax a0 0) 3) (imin (imax a1 1) 4) r1.1 (View.mk r1.2.2.2.2.2.2.1 r1.2.2.2.2.2.2.2.1 r1.2.2.2.2.2.2.2.2.1 r1.2.2.2.2.2.2.2.2.2.1 r1.2.2.2.2.2.2.2.2.2.2.1 r1.2.2.2.2.2.2.2.2.2.2.2.1 r1.2.2.2.2.2.2.2.2.2.2.2.2.1 r1.2.2.2.2.2.2.2.2.2.2.2.2.2) (Packet.mk 0 0 0 0 (Command.mk 0 0 0 0 (Point.mk 0 0) (A4.mk (Field.mk 0 ByteArray.empty) (Field.mk 0 ByteArray.empty) (Field.mk 0 ByteArray.empty) (Field.mk 0 ByteArray.empty)) (Field.mk 0 ByteArray.empty) 0 0 (Rect.mk 0 0 0 0)) 0 0 (Note.mk 0 0 r1.2.1 r1.2.2.1 r1.2.2.2.1 r1.2.2.2.2.1) (Frame.mk 0 0 0 0 0 r1.2.2.2.2.2.1) 0 0) false 0 0 0)
theorem F27_ok (n : Nat) (a0 a1 : Int) : ∀ r, F27 n a0 a1 = some r → D 27 [.one (li .i64 a0), .one (li .i64 a1)] [] = some (F27_e r) := by
 refine zan (D := D) (n := n + 8) (nt := 17) (rs := pc27_r) (c := p27c9) (L := [(0, qj a0), (1, qj a1)]) (M := []) (k := 0) rfl rfl rfl rfl rfl rfl rfl ?_
 unfold F27
 refine Sim.su 1 [] (.su 9 [(13, some (.cells (W27 a0 a1)))] (.sv 1 [] (.bn ⟨some 15, .gcall false false k7' [[]] 38 [14], none, []⟩ (fun r1 => [(15, tz)]) (fun r1 => [(13, some (.cells [lj (imin (imax a0 0) 3), lj (imin (imax a1 1) 4), lj r1.1, .ptr 300000 0, lj 0, lj 0, lj 0, lj 0, lj 0, lj 0, lj 0, lj 0, lj 0, lj 0, lj 0, ls be, lj 0, ls be, lj 0, ls be, lj 0, ls be, lj 0, ls be, lj 0, lj 0, lj 0, lj 0, lj 0, lj 0, lj 0, lj 0, lj 0, lj 0, vw Thing.cod r1.2.1, vw Hand.cod r1.2.2.1, vw Thing.cod r1.2.2.2.1, vw Command.cod r1.2.2.2.2.1, lj 0, lj 0, lj 0, lj 0, lj 0, vw Event.cod r1.2.2.2.2.2.1, lj 0, lj 0, lb false, lj 0, lj 0, lj 0])), (300000, some (.cells [lj r1.2.2.2.2.2.2.1, lj r1.2.2.2.2.2.2.2.1, lj r1.2.2.2.2.2.2.2.2.1, lj r1.2.2.2.2.2.2.2.2.2.1, lj r1.2.2.2.2.2.2.2.2.2.2.1, vw Thing.cod r1.2.2.2.2.2.2.2.2.2.2.2.1, .osl 300001 0 0 (r1.2.2.2.2.2.2.2.2.2.2.2.2.1).length, .mp 300002])), (300001, some (.arr 58 Event.cod.sz 0 (r1.2.2.2.2.2.2.2.2.2.2.2.2.1).length (zaa Event.cod r1.2.2.2.2.2.2.2.2.2.2.2.2.1))), (300002, some (.map (zaj Key.cells Event.cod r1.2.2.2.2.2.2.2.2.2.2.2.2.2)))]) (fun r1 hr => pe (zar (ks := [13]) (rks := []) (new := [300000, 300001, 300002]) (ARGS := [qp 13 0]) (args1 := [qp 13 0]) (args2 := [qp 1000000 0]) (os := [.cells (W27 a0 a1)]) (os' := [.cells [lj (imin (imax a0 0) 3), lj (imin (imax a1 1) 4), lj r1.1, .ptr 1000001 0, lj 0, lj 0, lj 0, lj 0, lj 0, lj 0, lj 0, lj 0, lj 0, lj 0, lj 0, ls be, lj 0, ls be, lj 0, ls be, lj 0, ls be, lj 0, ls be, lj 0, lj 0, lj 0, lj 0, lj 0, lj 0, lj 0, lj 0, lj 0, lj 0, vw Thing.cod r1.2.1, vw Hand.cod r1.2.2.1, vw Thing.cod r1.2.2.2.1, vw Command.cod r1.2.2.2.2.1, lj 0, lj 0, lj 0, lj 0, lj 0, vw Event.cod r1.2.2.2.2.2.1, lj 0, lj 0, lb false, lj 0, lj 0, lj 0], .cells [lj r1.2.2.2.2.2.2.1, lj r1.2.2.2.2.2.2.2.1, lj r1.2.2.2.2.2.2.2.2.1, lj r1.2.2.2.2.2.2.2.2.2.1, lj r1.2.2.2.2.2.2.2.2.2.2.1, vw Thing.cod r1.2.2.2.2.2.2.2.2.2.2.2.1, .osl 1000002 0 0 (r1.2.2.2.2.2.2.2.2.2.2.2.2.1).length, .mp 1000003], .arr 58 Event.cod.sz 0 (r1.2.2.2.2.2.2.2.2.2.2.2.2.1).length (zaa Event.cod r1.2.2.2.2.2.2.2.2.2.2.2.2.1), .map (zaj Key.cells Event.cod r1.2.2.2.2.2.2.2.2.2.2.2.2.2)]) (os1 := [.cells [lj (imin (imax a0 0) 3), lj (imin (imax a1 1) 4), lj r1.1, .ptr 1000001 0, lj 0, lj 0, lj 0, lj 0, lj 0, lj 0, lj 0, lj 0, lj 0, lj 0, lj 0, ls be, lj 0, ls be, lj 0, ls be, lj 0, ls be, lj 0, ls be, lj 0, lj 0, lj 0, lj 0, lj 0, lj 0, lj 0, lj 0, lj 0, lj 0, vw Thing.cod r1.2.1, vw Hand.cod r1.2.2.1, vw Thing.cod r1.2.2.2.1, vw Command.cod r1.2.2.2.2.1, lj 0, lj 0, lj 0, lj 0, lj 0, vw Event.cod r1.2.2.2.2.2.1, lj 0, lj 0, lb false, lj 0, lj 0, lj 0], .cells [lj r1.2.2.2.2.2.2.1, lj r1.2.2.2.2.2.2.2.1, lj r1.2.2.2.2.2.2.2.2.1, lj r1.2.2.2.2.2.2.2.2.2.1, lj r1.2.2.2.2.2.2.2.2.2.2.1, vw Thing.cod r1.2.2.2.2.2.2.2.2.2.2.2.1, .osl 1000002 0 0 (r1.2.2.2.2.2.2.2.2.2.2.2.2.1).length, .mp 1000003], .arr 58 Event.cod.sz 0 (r1.2.2.2.2.2.2.2.2.2.2.2.2.1).length (zaa Event.cod r1.2.2.2.2.2.2.2.2.2.2.2.2.1), .map (zaj Key.cells Event.cod r1.2.2.2.2.2.2.2.2.2.2.2.2.2)]) (res := tz) (res1 := tz) (r := tz) (N := [(13, some (.cells [lj (imin (imax a0 0) 3), lj (imin (imax a1 1) 4), lj r1.1, .ptr 300000 0, lj 0, lj 0, lj 0, lj 0, lj 0, lj 0, lj 0, lj 0, lj 0, lj 0, lj 0, ls be, lj 0, ls be, lj 0, ls be, lj 0, ls be, lj 0, ls be, lj 0, lj 0, lj 0, lj 0, lj 0, lj 0, lj 0, lj 0, lj 0, lj 0, vw Thing.cod r1.2.1, vw Hand.cod r1.2.2.1, vw Thing.cod r1.2.2.2.1, vw Command.cod r1.2.2.2.2.1, lj 0, lj 0, lj 0, lj 0, lj 0, vw Event.cod r1.2.2.2.2.2.1, lj 0, lj 0, lb false, lj 0, lj 0, lj 0])), (300000, some (.cells [lj r1.2.2.2.2.2.2.1, lj r1.2.2.2.2.2.2.2.1, lj r1.2.2.2.2.2.2.2.2.1, lj r1.2.2.2.2.2.2.2.2.2.1, lj r1.2.2.2.2.2.2.2.2.2.2.1, vw Thing.cod r1.2.2.2.2.2.2.2.2.2.2.2.1, .osl 300001 0 0 (r1.2.2.2.2.2.2.2.2.2.2.2.2.1).length, .mp 300002])), (300001, some (.arr 58 Event.cod.sz 0 (r1.2.2.2.2.2.2.2.2.2.2.2.2.1).length (zaa Event.cod r1.2.2.2.2.2.2.2.2.2.2.2.2.1))), (300002, some (.map (zaj Key.cells Event.cod r1.2.2.2.2.2.2.2.2.2.2.2.2.2)))]) (by kernel_rfl) (zax (zak (by kernel_rfl) (zas))) (by kernel_rfl) (by kernel_rfl) (by kernel_rfl) (by kernel_rfl) (F38s0_ok _ _ _ _ _ _ _ _ _ _ hr) (by kernel_rfl) (by kernel_rfl) (by kernel_rfl) rfl (by kernel_rfl) (by kernel_rfl) (by kernel_rfl))) (fun r1 => ?_))))
 exact SimI.dn (.thenN (.su 2 [] (.ret .fn)))
def F62_e : Bool → PV × List Ob := fun r => (.one (lb r), [])
def F62 (n : Nat) (a0 : Field) : Option Bool :=
 if a0.N == 0 then
  some (decide ((a0.Text.size : Int) ≤ 12))
 else
  if a0.Text.toList == ByteArray.empty.toList then
   some (decide ((a0.Text.size : Int) ≤ 12))
  else
   some false
theorem zfa (n : Nat) (a0 : Field) : ∀ r, F62 n a0 = some r → D 62 [.agg [li .i64 a0.N, ls a0.Text]] [] = some (F62_e r) := by
 refine zan (D := D) (n := n + 8) (nt := 17) (rs := pc62_r) (c := p62c5) (L := [(0, .agg [lj a0.N, ls a0.Text])]) (M := []) (k := 0) rfl rfl rfl rfl rfl rfl rfl ?_
 unfold F62
 refine Sim.su 2 (W85 a0) (.sv 4 [] (.sp 6 _ ?_ ?_))
 ·exact SimI.ru 11 [] (.thenN (.ret .fn))
 ·refine SimI.rn 5 (w23 a0) [] (.sp 11 _ ?_ ?_)
  ·exact SimI.rd 6 (w24 a0) [] (.thenN (.ret .fn))
  ·exact SimI.ru 6 [] (.thenN (.ret .fn))
def F63_e : Command → PV × List Ob := fun r => (.agg (Command.cells r), [])
def F63 (n : Nat) (a0 : Command) : Option Command :=
 if a0.Kind == 1 then
  some (Command.mk a0.Kind 0 0 0 a0.At a0.F (Field.mk 0 ByteArray.empty) a0.Client a0.Session (Rect.mk 0 0 0 0))
 else
  if a0.Kind == 2 then
   some (Command.mk a0.Kind a0.ID 0 0 a0.At (A4.mk (Field.mk 0 ByteArray.empty) (Field.mk 0 ByteArray.empty) (Field.mk 0 ByteArray.empty) (Field.mk 0 ByteArray.empty)) (Field.mk 0 ByteArray.empty) a0.Client a0.Session (Rect.mk 0 0 0 0))
  else
   if a0.Kind == 3 then
    some (Command.mk a0.Kind a0.ID a0.Which 0 (Point.mk 0 0) (A4.mk (Field.mk 0 ByteArray.empty) (Field.mk 0 ByteArray.empty) (Field.mk 0 ByteArray.empty) (Field.mk 0 ByteArray.empty)) a0.Value a0.Client a0.Session (Rect.mk 0 0 0 0))
   else
    if a0.Kind == 4 then
     some (Command.mk a0.Kind a0.ID 0 0 (Point.mk 0 0) (A4.mk (Field.mk 0 ByteArray.empty) (Field.mk 0 ByteArray.empty) (Field.mk 0 ByteArray.empty) (Field.mk 0 ByteArray.empty)) (Field.mk 0 ByteArray.empty) a0.Client a0.Session (Rect.mk 0 0 0 0))
    else
     if a0.Kind == 5 then
      some (Command.mk a0.Kind 0 a0.Which a0.To (Point.mk 0 0) (A4.mk (Field.mk 0 ByteArray.empty) (Field.mk 0 ByteArray.empty) (Field.mk 0 ByteArray.empty) (Field.mk 0 ByteArray.empty)) (Field.mk 0 ByteArray.empty) a0.Client a0.Session (Rect.mk 0 0 0 0))
     else
      if a0.Kind == 6 then
       if a0.Kind == 6 then
        some (Command.mk a0.Kind 0 0 0 (Point.mk 0 0) (A4.mk (Field.mk 0 ByteArray.empty) (Field.mk 0 ByteArray.empty) (Field.mk 0 ByteArray.empty) (Field.mk 0 ByteArray.empty)) (Field.mk 0 ByteArray.empty) a0.Client a0.Session a0.Rect)
       else
        some (Command.mk a0.Kind 0 0 0 (Point.mk 0 0) (A4.mk (Field.mk 0 ByteArray.empty) (Field.mk 0 ByteArray.empty) (Field.mk 0 ByteArray.empty) (Field.mk 0 ByteArray.empty)) (Field.mk 0 ByteArray.empty) a0.Client a0.Session (Rect.mk 0 0 0 0))
      else
       if a0.Kind == 7 then
        some (Command.mk a0.Kind 0 0 0 (Point.mk 0 0) (A4.mk (Field.mk 0 ByteArray.empty) (Field.mk 0 ByteArray.empty) (Field.mk 0 ByteArray.empty) (Field.mk 0 ByteArray.empty)) (Field.mk 0 ByteArray.empty) a0.Client a0.Session a0.Rect)
       else
        some (Command.mk a0.Kind 0 0 0 (Point.mk 0 0) (A4.mk (Field.mk 0 ByteArray.empty) (Field.mk 0 ByteArray.empty) (Field.mk 0 ByteArray.empty) (Field.mk 0 ByteArray.empty)) (Field.mk 0 ByteArray.empty) a0.Client a0.Session (Rect.mk 0 0 0 0))
theorem F63_ok (n : Nat) (a0 : Command) : ∀ r, F63 n a0 = some r → D 63 [.agg (Command.cells a0)] [] = some (F63_e r) := by
 refine zan (D := D) (n := n + 8) (nt := 60) (rs := pc63_r) (c := p63c40) (L := [(0, .agg (Command.cells a0))]) (M := []) (k := 0) rfl rfl rfl rfl rfl rfl rfl ?_
 unfold F63
 refine Sim.su 2 [(2, some (.cells W21)), (1, some (.cells (Command.cells a0)))] (.su 9 [(3, some (.cells (w1 a0))), (3, some (.cells W21))] (.seq (.su 2 [] (.block (.su 2 [] (.cd _ ?_ ?_))))))
 ·exact Sim.region0 (.ru 8 [(3, some (.cells (W16 a0))), (3, some (.cells (w25 a0)))] (.blockN (.thenN (.su 2 [(2, some (.cells (W16 a0)))] (.ret .fn)))))
 ·refine Sim.su 2 [] (.cd _ ?_ ?_)
  ·exact Sim.region0 (.ru 8 [(3, some (.cells (w7 a0))), (3, some (.cells (w3 a0)))] (.blockN (.thenN (.su 2 [(2, some (.cells (w7 a0)))] (.ret .fn)))))
  ·refine Sim.su 2 [] (.cd _ ?_ ?_)
   ·exact Sim.region0 (.ru 12 [(3, some (.cells (w8 a0))), (3, some (.cells (w26 a0))), (3, some (.cells (w3 a0)))] (.blockN (.thenN (.su 2 [(2, some (.cells (w8 a0)))] (.ret .fn)))))
   ·refine Sim.su 2 [] (.cd _ ?_ ?_)
    ·exact Sim.region0 (.ru 4 [(3, some (.cells (w3 a0)))] (.blockN (.thenN (.su 2 [(2, some (.cells (w3 a0)))] (.ret .fn)))))
    ·refine Sim.su 2 [] (.cd _ ?_ ?_)
     ·exact Sim.region0 (.rd 8 (w27 a0) [(3, some (.cells (w9 a0))), (3, some (.cells (w28 a0)))] (.blockN (.thenN (.su 2 [(2, some (.cells (w9 a0)))] (.ret .fn)))))
     ·refine Sim.seq (.su 2 [] (.cd _ ?_ ?_))
      ·refine Sim.skip (.thenN (.cd _ ?_ ?_))
       ·exact Sim.region0 (.rd 4 (w12 a0) [(3, some (.cells (w2 a0)))] (.blockN (.thenN (.su 2 [(2, some (.cells (w2 a0)))] (.ret .fn)))))
       ·exact Sim.skip (.blockN (.thenN (.su 2 [(2, some (.cells (w1 a0)))] (.ret .fn))))
      ·refine Sim.region0 (.ru 2 [] (.thenN (.cd _ ?_ ?_)))
       ·exact Sim.region0 (.rd 4 (w12 a0) [(3, some (.cells (w2 a0)))] (.blockN (.thenN (.su 2 [(2, some (.cells (w2 a0)))] (.ret .fn)))))
       ·exact Sim.skip (.blockN (.thenN (.su 2 [(2, some (.cells (w1 a0)))] (.ret .fn))))
def F64_e : Bool → PV × List Ob := fun r => (.one (lb r), [])
def F64_l4 (n : Nat) (a0 : (List Int)) : Nat → Int → Option Bool
 | 0, _ => none
 | m + 1, i3 =>
  if decide (i3 < ((a0).length : Int)) then
   (ix a0 i3).bind fun (x5 : Int) =>
   if decide (((-1000) : Int) ≤ x5) then
    if decide (x5 ≤ 1000) then
     (F64_l4 n a0 m) (IntKind.wrap .i64 (i3 + 1))
    else
     some false
   else
    some false
  else
   some true
theorem F64_l4_ok (n : Nat) (a0 : (List Int)) : ∀ (m : Nat) (i3 : Int), SimL Try.prog D (n + 8) m p64c23 [(5, .one (vw (codI .i64) a0)), (6, qj ((a0).length : Int)), (7, qj i3)] [] (F64_l4 n a0 m i3) (QB 0 (QT Try.prog D (n + 8) p64c29 (QF false pc64_r 0 F64_e))) := by
 intro m_l4
 induction m_l4 with
 | zero => intro i3; exact SimL.zero'  rfl
 | succ m_l4 ih_l4 =>
  intro i3
  refine SimL.succ ?_
  unfold F64_l4
  refine Sim.seq (.rg [(5, .one (vw (codI .i64) a0)), (6, qj ((a0).length : Int)), (7, qj i3)] [] (.ru 1 [] (.thenN (.seq (.cd _ ?_ ?_)))))
  ·refine Sim.skip (.thenN (.seq (.block (.seq (.region0 (.bn ⟨some 9, .iaddrS 1 5 7, none, []⟩ (fun x5 => [(9, .one (.eptr ((codI .i64).enc x5) 0))]) (fun x5 => []) (fun x5 hr => pe (ei (c := (codI .i64)) (k := .i64) hr)) (fun x5 => ?_)))))))
   refine SimI.ru 2 [] (.thenN (.seq (.sv 3 [] (.sp 13 _ ?_ ?_))))
   ·refine SimI.ru 3 [] (.thenN (.cd _ ?_ ?_))
    ·refine Sim.exit (.thenX (.blockX (.thenN (.region0 (.ru 2 [] (.loopN (.pr [5, 6, 7] [] [] [(5, .one (vw (codI .i64) a0)), (6, qj ((a0).length : Int)), (7, qj (iw .i64 (i3 + 1)))] [] ?_)))))))
     exact ih_l4 (iw .i64 (i3 + 1))
    ·exact Sim.skip (.thenN (.su 1 [] (.ret (.blockR (.thenR (.loopR (.blockR (.thenR .fn))))))))
   ·exact SimI.ru 3 [] (.thenN (.cf (.skip (.thenN (.su 1 [] (.ret (.blockR (.thenR (.loopR (.blockR (.thenR .fn)))))))))))
  ·exact Sim.exit (.thenX (.loopX (.blockX (.thenN (.su 1 [] (.ret .fn))))))
def F64 (n : Nat) (a0 : (List Int)) : Option Bool :=
 F64_l4 n a0 (n + 8) 0
theorem F64_ok (n : Nat) (a0 : (List Int)) : ∀ r, F64 n a0 = some r → D 64 [.one (vw (codI .i64) a0)] [] = some (F64_e r) := by
 refine zan (D := D) (n := n + 8) (nt := 18) (rs := pc64_r) (c := p64c33) (L := [(0, .one (vw (codI .i64) a0))]) (M := []) (k := 0) rfl rfl rfl rfl rfl rfl rfl ?_
 unfold F64
 refine Sim.su 1 [] (.scope (.seq (.label (.thenN (.seq (.su 3 [] (.block (.loop (.pr [5, 6, 7] [] [] [(5, .one (vw (codI .i64) a0)), (6, qj ((a0).length : Int)), (7, qj 0)] [] ?_)))))))))
 exact F64_l4_ok n a0 (n + 8) 0
def F51_e : Bool → PV × List Ob := fun r => (.one (lb r), [])
def zcu (n : Nat) (a0 : Command) (b6 b8 b11 : Bool) : Option Bool :=
  if b6 then
   if b8 then
    if b11 then
     (F64 n [a0.At.X, a0.At.Y, a0.Rect.X0, a0.Rect.Y0, a0.Rect.X1, a0.Rect.Y1]).bind fun (r13 : Bool) =>
     some r13
    else
     some false
   else
    some false
  else
   some false
theorem zbv (n : Nat) (a0 : Command) (b6 b8 b11 : Bool) : Sim Try.prog D (n + 8) p51c29 [(1, qp 1 0), (5, qb b6), (6, qb b8), (7, qb b11)] (W6 a0) (zcu n a0 b6 b8 b11) (QF false pc51_r 0 F51_e) := by
  unfold zcu
  refine Sim.seq (.rs (.rv 2 [] (.sp 83 _ ?_ ?_)))
  ·refine SimI.rv 3 [] (.sp 86 _ ?_ ?_)
   ·refine SimI.rv 3 [] (.sp 89 _ ?_ ?_)
    ·refine SimI.rv 19 [] (.cl 109 true [[(0, 1)]] 64 [108] (some (89, true)) (fun r13 => qb r13) [.one (vw (codI .i64) [a0.At.X, a0.At.Y, a0.Rect.X0, a0.Rect.Y0, a0.Rect.X1, a0.Rect.Y1])] (F64_ok _ _) (fun r13 => ?_))
     exact SimI.ru 2 [] (.thenN (.ret .fn))
    ·exact SimI.ru 22 [] (.thenN (.ret .fn))
   ·exact SimI.ru 25 [] (.thenN (.ret .fn))
  ·exact SimI.ru 28 [] (.thenN (.ret .fn))
def F51_j9 (n : Nat) (a0 : Command) (b6 b8 : Bool) : Option Bool :=
  if decide ((0 : Int) ≤ a0.ID) then
   if decide (a0.ID ≤ 1000000) then
    if decide (((-1) : Int) ≤ a0.Which) then
     if decide (a0.Which ≤ 100) then
      if decide (((-1) : Int) ≤ a0.To) then
       if decide (a0.To ≤ 100) then
        (F62 n a0.Value).bind fun (r10 : Bool) =>
        zcu n a0 b6 b8 r10
       else
        zcu n a0 b6 b8 false
      else
       zcu n a0 b6 b8 false
     else
      zcu n a0 b6 b8 false
    else
     zcu n a0 b6 b8 false
   else
    zcu n a0 b6 b8 false
  else
   zcu n a0 b6 b8 false
theorem zgu (n : Nat) (a0 : Command) (b6 b8 : Bool) : Sim Try.prog D (n + 8) p51c30 [(1, qp 1 0), (5, qb b6), (6, qb b8)] (W6 a0) (F51_j9 n a0 b6 b8) (QF false pc51_r 0 F51_e) := by
  unfold F51_j9
  refine Sim.seq (.rs (.rv 4 [] (.sp 52 _ ?_ ?_)))
  ·refine SimI.rv 5 [] (.sp 57 _ ?_ ?_)
   ·refine SimI.rv 5 [] (.sp 62 _ ?_ ?_)
    ·refine SimI.rv 5 [] (.sp 67 _ ?_ ?_)
     ·refine SimI.rv 5 [] (.sp 72 _ ?_ ?_)
      ·refine SimI.rv 5 [] (.sp 77 _ ?_ ?_)
       ·refine SimI.rv 2 [] (.cl 80 true [[]] 62 [79] (some (77, true)) (fun r10 => qb r10) [.agg [lj a0.Value.N, ls a0.Value.Text]] (zfa _ _) (fun r10 => ?_))
        refine SimI.ru 2 [] (.thenN (.pr [1, 5, 6, 7] [1] [] [(1, qp 1 0), (5, qb b6), (6, qb b8), (7, qb r10)] (W6 a0) ?_))
        exact zbv n a0 b6 b8 r10
       ·refine SimI.ru 5 [] (.thenN (.pr [1, 5, 6, 7] [1] [] (W63 b6 b8) (W6 a0) ?_))
        exact zbv n a0 b6 b8 false
      ·refine SimI.ru 10 [] (.thenN (.pr [1, 5, 6, 7] [1] [] (W63 b6 b8) (W6 a0) ?_))
       exact zbv n a0 b6 b8 false
     ·refine SimI.ru 15 [] (.thenN (.pr [1, 5, 6, 7] [1] [] (W63 b6 b8) (W6 a0) ?_))
      exact zbv n a0 b6 b8 false
    ·refine SimI.ru 20 [] (.thenN (.pr [1, 5, 6, 7] [1] [] (W63 b6 b8) (W6 a0) ?_))
     exact zbv n a0 b6 b8 false
   ·refine SimI.ru 25 [] (.thenN (.pr [1, 5, 6, 7] [1] [] (W63 b6 b8) (W6 a0) ?_))
    exact zbv n a0 b6 b8 false
  ·refine SimI.ru 30 [] (.thenN (.pr [1, 5, 6, 7] [1] [] (W63 b6 b8) (W6 a0) ?_))
   exact zbv n a0 b6 b8 false
def F51_j7 (n : Nat) (a0 : Command) (b6 : Bool) : Option Bool :=
  if decide ((0 : Int) ≤ a0.Client) then
   if decide (a0.Client < 4) then
    if decide ((0 : Int) ≤ a0.Session) then
     F51_j9 n a0 b6 (decide (a0.Session ≤ 1000000))
    else
     F51_j9 n a0 b6 false
   else
    F51_j9 n a0 b6 false
  else
   F51_j9 n a0 b6 false
theorem F51_j7_ok (n : Nat) (a0 : Command) (b6 : Bool) : Sim Try.prog D (n + 8) p51c31 [(1, qp 1 0), (5, qb b6)] (W6 a0) (F51_j7 n a0 b6) (QF false pc51_r 0 F51_e) := by
  unfold F51_j7
  refine Sim.seq (.rs (.rv 4 [] (.sp 34 _ ?_ ?_)))
  ·refine SimI.rv 5 [] (.sp 39 _ ?_ ?_)
   ·refine SimI.rv 5 [] (.sp 44 _ ?_ ?_)
    ·refine SimI.ru 5 [] (.thenN (.pr [1, 5, 6] [1] [] [(1, qp 1 0), (5, qb b6), (6, qb (decide (a0.Session ≤ 1000000)))] (W6 a0) ?_))
     exact zgu n a0 b6 (decide (a0.Session ≤ 1000000))
    ·refine SimI.ru 5 [] (.thenN (.pr [1, 5, 6] [1] [] [(1, qp 1 0), (5, qb b6), (6, qb false)] (W6 a0) ?_))
     exact zgu n a0 b6 false
   ·refine SimI.ru 10 [] (.thenN (.pr [1, 5, 6] [1] [] [(1, qp 1 0), (5, qb b6), (6, qb false)] (W6 a0) ?_))
    exact zgu n a0 b6 false
  ·refine SimI.ru 15 [] (.thenN (.pr [1, 5, 6] [1] [] [(1, qp 1 0), (5, qb b6), (6, qb false)] (W6 a0) ?_))
   exact zgu n a0 b6 false
def F51 (n : Nat) (a0 : Command) : Option Bool :=
 (F62 n a0.F.a0).bind fun (r1 : Bool) =>
 if !(r1) then
  some false
 else
  (F62 n a0.F.a1).bind fun (r2 : Bool) =>
  if !(r2) then
   some false
  else
   (F62 n a0.F.a2).bind fun (r3 : Bool) =>
   if !(r3) then
    some false
   else
    (F62 n a0.F.a3).bind fun (r4 : Bool) =>
    if !(r4) then
     some false
    else
     if decide ((1 : Int) ≤ a0.Kind) then
      if decide (a0.Kind ≤ 8) then
       (F63 n a0).bind fun (r5 : Command) =>
       F51_j7 n a0 (Command.eqb a0 r5)
      else
       F51_j7 n a0 false
     else
      F51_j7 n a0 false
theorem F51_ok (n : Nat) (a0 : Command) : ∀ r, F51 n a0 = some r → D 51 [.agg (Command.cells a0)] [] = some (F51_e r) := by
 refine zan (D := D) (n := n + 8) (nt := 111) (rs := pc51_r) (c := p51c34) (L := [(0, .agg (Command.cells a0))]) (M := []) (k := 0) rfl rfl rfl rfl rfl rfl rfl ?_
 unfold F51
 refine Sim.su 2 (W6 a0) (.seq (.su 3 [] (.block (.loop (.succ (.seq (.rg [(1, qp 1 0), (9, .agg (A4_Field.cells a0.F)), (10, qj 0)] (W6 a0) (.ru 1 [] (.thenN (.seq (.ct (.skip (.thenN (.seq (.block (.su 3 [(4, some (.cells [lj a0.F.a0.N, ls a0.F.a0.Text])), (4, some (.cells [lj 0, ls be]))] (.sv 1 [] (.cl 14 true [[]] 62 [13] none (fun r1 => qb r1) [.agg [lj a0.F.a0.N, ls a0.F.a0.Text]] (zfa _ _) (fun r1 => ?_)))))))))))))))))))
 refine SimI.ru 1 [] (.thenN (.cd _ ?_ ?_))
 ·exact Sim.su 1 [] (.ret (.blockR (.thenR (.loopR (.blockR (.thenR .fn))))))
 ·refine Sim.skip (.blockN (.thenN (.region0 (.ru 2 [] (.loopN (.succ (.seq (.rg [(1, qp 1 0), (9, .agg (A4_Field.cells a0.F)), (10, qj 1)] (W6 a0) (.ru 1 [] (.thenN (.seq (.ct (.skip (.thenN (.seq (.block (.su 3 [(4, some (.cells [lj a0.F.a1.N, ls a0.F.a1.Text])), (4, some (.cells [lj 0, ls be]))] (.sv 1 [] (.cl 14 true [[]] 62 [13] none (fun r2 => qb r2) [.agg [lj a0.F.a1.N, ls a0.F.a1.Text]] (zfa _ _) (fun r2 => ?_))))))))))))))))))))
  refine SimI.ru 1 [] (.thenN (.cd _ ?_ ?_))
  ·exact Sim.su 1 [] (.ret (.blockR (.thenR (.loopR (.blockR (.thenR .fn))))))
  ·refine Sim.skip (.blockN (.thenN (.region0 (.ru 2 [] (.loopN (.succ (.seq (.rg [(1, qp 1 0), (9, .agg (A4_Field.cells a0.F)), (10, qj 2)] (W6 a0) (.ru 1 [] (.thenN (.seq (.ct (.skip (.thenN (.seq (.block (.su 3 [(4, some (.cells [lj a0.F.a2.N, ls a0.F.a2.Text])), (4, some (.cells [lj 0, ls be]))] (.sv 1 [] (.cl 14 true [[]] 62 [13] none (fun r3 => qb r3) [.agg [lj a0.F.a2.N, ls a0.F.a2.Text]] (zfa _ _) (fun r3 => ?_))))))))))))))))))))
   refine SimI.ru 1 [] (.thenN (.cd _ ?_ ?_))
   ·exact Sim.su 1 [] (.ret (.blockR (.thenR (.loopR (.blockR (.thenR .fn))))))
   ·refine Sim.skip (.blockN (.thenN (.region0 (.ru 2 [] (.loopN (.succ (.seq (.rg [(1, qp 1 0), (9, .agg (A4_Field.cells a0.F)), (10, qj 3)] (W6 a0) (.ru 1 [] (.thenN (.seq (.ct (.skip (.thenN (.seq (.block (.su 3 [(4, some (.cells [lj a0.F.a3.N, ls a0.F.a3.Text])), (4, some (.cells [lj 0, ls be]))] (.sv 1 [] (.cl 14 true [[]] 62 [13] none (fun r4 => qb r4) [.agg [lj a0.F.a3.N, ls a0.F.a3.Text]] (zfa _ _) (fun r4 => ?_))))))))))))))))))))
    refine SimI.ru 1 [] (.thenN (.cd _ ?_ ?_))
    ·exact Sim.su 1 [] (.ret (.blockR (.thenR (.loopR (.blockR (.thenR .fn))))))
    ·refine Sim.skip (.blockN (.thenN (.region0 (.ru 2 [] (.loopN (.succ (.seq (.rg [(1, qp 1 0), (9, .agg (A4_Field.cells a0.F)), (10, qj 4)] (W6 a0) (.ru 1 [] (.thenN (.seq (.cf (.exit (.thenX (.loopX (.blockX (.thenN (.sv 4 [] (.sp 20 _ ?_ ?_)))))))))))))))))))
     ·refine SimI.rv 5 [] (.sp 25 _ ?_ ?_)
      ·refine SimI.rv 2 [] (.cm 28 false [[]] 63 [27] (some (25, true)) [(27, .imm)] (F63_ok _ _) (fun r5 => ?_))
       refine SimI.se ⟨some 29, .prim (.bin .eql 63 false false) [26, 28], some (25, true), [(26, .imm), (28, .imm)]⟩ [(29, qb (Command.eqb a0 r5))] [] (pe (ep (zft a0 r5 _ _))) (.ru 2 [] (.thenN (.pr [1, 5] [1] [] [(1, qp 1 0), (5, qb (Command.eqb a0 r5))] (W6 a0) ?_)))
       exact F51_j7_ok n a0 (Command.eqb a0 r5)
      ·refine SimI.ru 6 [] (.thenN (.pr [1, 5] [1] [] [(1, qp 1 0), (5, qb false)] (W6 a0) ?_))
       exact F51_j7_ok n a0 false
     ·refine SimI.ru 11 [] (.thenN (.pr [1, 5] [1] [] [(1, qp 1 0), (5, qb false)] (W6 a0) ?_))
      exact F51_j7_ok n a0 false
def F28_e : (Packet × Int × Client) → PV × List Ob := fun r => (.tup [.agg (zad r.1 []), .one (li .i64 r.2.1)], [.cells (li .i64 r.2.2.id_ :: li .i64 r.2.2.n :: li .i64 r.2.2.session :: .ptr 1000001 0 :: zad r.2.2.asked [lb r.2.2.busy, li .i64 r.2.2.seq, li .i64 r.2.2.thing, li .i64 r.2.2.e]), .cells [li .i64 r.2.2.v.client, li .i64 r.2.2.v.session, li .i64 r.2.2.v.n, li .i64 r.2.2.v.beat, li .i64 r.2.2.v.start, vw Thing.cod r.2.2.v.things, .osl 1000002 1 0 (r.2.2.v.log_).length, .mp 1000003], .arr 58 Event.cod.sz 1 (r.2.2.v.log_).length (zaa Event.cod r.2.2.v.log_), .map (zaj Key.cells Event.cod r.2.2.v.wait)])
def F28 (n : Nat) (a0 : Client) (a1 : Int) (a2 : Command) : Option (Packet × Int × Client) :=
 if a0.busy then
  some ((Packet.mk 0 0 0 0 (Command.mk 0 0 0 0 (Point.mk 0 0) (A4.mk (Field.mk 0 ByteArray.empty) (Field.mk 0 ByteArray.empty) (Field.mk 0 ByteArray.empty) (Field.mk 0 ByteArray.empty)) (Field.mk 0 ByteArray.empty) 0 0 (Rect.mk 0 0 0 0)) 0 0 (Note.mk 0 0 ([] : List Thing) ([] : List Hand) ([] : List Thing) ([] : List Command)) (Frame.mk 0 0 0 0 0 ([] : List Event)) 0 0), 28, a0)
 else
  if decide (a1 < 0) then
   some ((Packet.mk 0 0 0 0 (Command.mk 0 0 0 0 (Point.mk 0 0) (A4.mk (Field.mk 0 ByteArray.empty) (Field.mk 0 ByteArray.empty) (Field.mk 0 ByteArray.empty) (Field.mk 0 ByteArray.empty)) (Field.mk 0 ByteArray.empty) 0 0 (Rect.mk 0 0 0 0)) 0 0 (Note.mk 0 0 ([] : List Thing) ([] : List Hand) ([] : List Thing) ([] : List Command)) (Frame.mk 0 0 0 0 0 ([] : List Event)) 0 0), 19, a0)
  else
   if decide (a0.n ≤ a1) then
    some ((Packet.mk 0 0 0 0 (Command.mk 0 0 0 0 (Point.mk 0 0) (A4.mk (Field.mk 0 ByteArray.empty) (Field.mk 0 ByteArray.empty) (Field.mk 0 ByteArray.empty) (Field.mk 0 ByteArray.empty)) (Field.mk 0 ByteArray.empty) 0 0 (Rect.mk 0 0 0 0)) 0 0 (Note.mk 0 0 ([] : List Thing) ([] : List Hand) ([] : List Thing) ([] : List Command)) (Frame.mk 0 0 0 0 0 ([] : List Event)) 0 0), 19, a0)
   else
    (F51 n (Command.mk a2.Kind a2.ID a2.Which a2.To a2.At a2.F a2.Value a0.id_ a0.session a2.Rect)).bind fun (r1 : Bool) =>
    if !(r1) then
     some ((Packet.mk 0 0 0 0 (Command.mk 0 0 0 0 (Point.mk 0 0) (A4.mk (Field.mk 0 ByteArray.empty) (Field.mk 0 ByteArray.empty) (Field.mk 0 ByteArray.empty) (Field.mk 0 ByteArray.empty)) (Field.mk 0 ByteArray.empty) 0 0 (Rect.mk 0 0 0 0)) 0 0 (Note.mk 0 0 ([] : List Thing) ([] : List Hand) ([] : List Thing) ([] : List Command)) (Frame.mk 0 0 0 0 0 ([] : List Event)) 0 0), 11, a0)
    else
     some ((Packet.mk (IntKind.wrap .i64 (100 + a0.id_)) a1 1 (IntKind.wrap .i64 (a0.seq + 1)) (Command.mk a2.Kind a2.ID a2.Which a2.To a2.At a2.F a2.Value a0.id_ a0.session a2.Rect) 0 0 (Note.mk 0 0 ([] : List Thing) ([] : List Hand) ([] : List Thing) ([] : List Command)) (Frame.mk 0 0 0 0 0 ([] : List Event)) a0.session 0), 0, (Client.mk a0.id_ a0.n a0.session a0.v (Packet.mk (IntKind.wrap .i64 (100 + a0.id_)) a1 1 (IntKind.wrap .i64 (a0.seq + 1)) (Command.mk a2.Kind a2.ID a2.Which a2.To a2.At a2.F a2.Value a0.id_ a0.session a2.Rect) 0 0 (Note.mk 0 0 ([] : List Thing) ([] : List Hand) ([] : List Thing) ([] : List Command)) (Frame.mk 0 0 0 0 0 ([] : List Event)) a0.session 0) true (IntKind.wrap .i64 (a0.seq + 1)) a0.thing a0.e))
theorem F28_ok (n : Nat) (a0 : Client) (a1 : Int) (a2 : Command) : ∀ r, F28 n a0 a1 a2 = some r → D 28 [.one (.ptr 1000000 0), .one (li .i64 a1), .agg (Command.cells a2)] [.cells (li .i64 a0.id_ :: li .i64 a0.n :: li .i64 a0.session :: .ptr 1000001 0 :: zad a0.asked [lb a0.busy, li .i64 a0.seq, li .i64 a0.thing, li .i64 a0.e]), .cells [li .i64 a0.v.client, li .i64 a0.v.session, li .i64 a0.v.n, li .i64 a0.v.beat, li .i64 a0.v.start, vw Thing.cod a0.v.things, .osl 1000002 0 0 (a0.v.log_).length, .mp 1000003], .arr 58 Event.cod.sz 0 (a0.v.log_).length (zaa Event.cod a0.v.log_), .map (zaj Key.cells Event.cod a0.v.wait)] = some (F28_e r) := by
 refine zan (D := D) (n := n + 8) (nt := 74) (rs := pc28_r) (c := p28c34) (L := [(0, qp 1000000 0), (1, qj a1), (2, .agg (Command.cells a2))]) (M := (W3 a0)) (k := 4) rfl rfl rfl rfl rfl rfl rfl ?_
 unfold F28
 refine Sim.su 3 [(6, some (.cells W0)), (5, some (.cells (Command.cells a2)))] (.su 12 [(5, some (.cells (W52 a2 a0))), (5, some (.cells [lj a2.Kind, lj a2.ID, lj a2.Which, lj a2.To, lj a2.At.X, lj a2.At.Y, lj a2.F.a0.N, ls a2.F.a0.Text, lj a2.F.a1.N, ls a2.F.a1.Text, lj a2.F.a2.N, ls a2.F.a2.Text, lj a2.F.a3.N, ls a2.F.a3.Text, lj a2.Value.N, ls a2.Value.Text, lj a0.id_, lj a2.Session, lj a2.Rect.X0, lj a2.Rect.Y0, lj a2.Rect.X1, lj a2.Rect.Y1]))] (.seq (.block (.su 5 [] (.cd _ ?_ ?_)))))
 ·exact Sim.su 3 [(6, some (.cells W0))] (.ret (.blockR (.thenR .fn)))
 ·refine Sim.sv 3 [] (.sp 27 _ ?_ ?_)
  ·exact SimI.ru 8 [] (.thenN (.ct (.su 3 [(6, some (.cells W0))] (.ret (.blockR (.thenR .fn))))))
  ·refine SimI.ru 8 [] (.thenN (.cd _ ?_ ?_))
   ·exact Sim.su 3 [(6, some (.cells W0))] (.ret (.blockR (.thenR .fn)))
   ·refine Sim.sv 1 [] (.cl 38 true [[]] 51 [37] none (fun r1 => qb r1) [.agg (W52 a2 a0)] (F51_ok _ _) (fun r1 => ?_))
    refine SimI.ru 2 [] (.thenN (.cd _ ?_ ?_))
    ·exact Sim.su 3 [(6, some (.cells W0))] (.ret (.blockR (.thenR .fn)))
    ·exact Sim.skip (.blockN (.thenN (.su 8 [(1000000, some (.cells (lj a0.id_ :: lj a0.n :: lj a0.session :: .ptr 1000001 0 :: zad a0.asked [lb a0.busy, lj (iw .i64 (a0.seq + 1)), lj a0.thing, lj a0.e])))] (.su 4 [(1000000, some (.cells (lj a0.id_ :: lj a0.n :: lj a0.session :: .ptr 1000001 0 :: zad a0.asked [lb true, lj (iw .i64 (a0.seq + 1)), lj a0.thing, lj a0.e])))] (.su 20 [(1000000, some (.cells [lj a0.id_, lj a0.n, lj a0.session, .ptr 1000001 0, lj (iw .i64 (100 + a0.id_)), lj a1, lj 1, lj (iw .i64 (a0.seq + 1)), lj a2.Kind, lj a2.ID, lj a2.Which, lj a2.To, lj a2.At.X, lj a2.At.Y, lj a2.F.a0.N, ls a2.F.a0.Text, lj a2.F.a1.N, ls a2.F.a1.Text, lj a2.F.a2.N, ls a2.F.a2.Text, lj a2.F.a3.N, ls a2.F.a3.Text, lj a2.Value.N, ls a2.Value.Text, lj a0.id_, lj a0.session, lj a2.Rect.X0, lj a2.Rect.Y0, lj a2.Rect.X1, lj a2.Rect.Y1, lj 0, lj 0, lj 0, lj 0, vw Thing.cod ([] : List Thing), vw Hand.cod ([] : List Hand), vw Thing.cod ([] : List Thing), vw Command.cod ([] : List Command), lj 0, lj 0, lj 0, lj 0, lj 0, vw Event.cod ([] : List Event), lj a0.session, lj 0, lb true, lj (iw .i64 (a0.seq + 1)), lj a0.thing, lj a0.e]))] (.su 6 [(6, some (.cells [lj (iw .i64 (100 + a0.id_)), lj a1, lj 1, lj (iw .i64 (a0.seq + 1)), lj a2.Kind, lj a2.ID, lj a2.Which, lj a2.To, lj a2.At.X, lj a2.At.Y, lj a2.F.a0.N, ls a2.F.a0.Text, lj a2.F.a1.N, ls a2.F.a1.Text, lj a2.F.a2.N, ls a2.F.a2.Text, lj a2.F.a3.N, ls a2.F.a3.Text, lj a2.Value.N, ls a2.Value.Text, lj a0.id_, lj a0.session, lj a2.Rect.X0, lj a2.Rect.Y0, lj a2.Rect.X1, lj a2.Rect.Y1, lj 0, lj 0, lj 0, lj 0, vw Thing.cod ([] : List Thing), vw Hand.cod ([] : List Hand), vw Thing.cod ([] : List Thing), vw Command.cod ([] : List Command), lj 0, lj 0, lj 0, lj 0, lj 0, vw Event.cod ([] : List Event), lj a0.session, lj 0]))] (.ret .fn)))))))
def F29_e : (Bool × Client) → PV × List Ob := fun r => (.one (lb r.1), [.cells (li .i64 r.2.id_ :: li .i64 r.2.n :: li .i64 r.2.session :: .ptr 1000001 0 :: zad r.2.asked [lb r.2.busy, li .i64 r.2.seq, li .i64 r.2.thing, li .i64 r.2.e]), .cells [li .i64 r.2.v.client, li .i64 r.2.v.session, li .i64 r.2.v.n, li .i64 r.2.v.beat, li .i64 r.2.v.start, vw Thing.cod r.2.v.things, .osl 1000002 1 0 (r.2.v.log_).length, .mp 1000003], .arr 58 Event.cod.sz 1 (r.2.v.log_).length (zaa Event.cod r.2.v.log_), .map (zaj Key.cells Event.cod r.2.v.wait)])
def F29 (n : Nat) (a0 : Client) : Option (Bool × Client) :=
 some (a0.busy, a0)
theorem F29_ok (n : Nat) (a0 : Client) : ∀ r, F29 n a0 = some r → D 29 [.one (.ptr 1000000 0)] [.cells (li .i64 a0.id_ :: li .i64 a0.n :: li .i64 a0.session :: .ptr 1000001 0 :: zad a0.asked [lb a0.busy, li .i64 a0.seq, li .i64 a0.thing, li .i64 a0.e]), .cells [li .i64 a0.v.client, li .i64 a0.v.session, li .i64 a0.v.n, li .i64 a0.v.beat, li .i64 a0.v.start, vw Thing.cod a0.v.things, .osl 1000002 0 0 (a0.v.log_).length, .mp 1000003], .arr 58 Event.cod.sz 0 (a0.v.log_).length (zaa Event.cod a0.v.log_), .map (zaj Key.cells Event.cod a0.v.wait)] = some (F29_e r) := by
 refine zan (D := D) (n := n + 8) (nt := 7) (rs := pc29_r) (c := p29c5) (L := [(0, qp 1000000 0)]) (M := (W3 a0)) (k := 4) rfl rfl rfl rfl rfl rfl rfl ?_
 unfold F29
 exact Sim.su 1 [] (.su 5 [] (.ret .fn))
def F30_e : ((List Packet) × Client) → PV × List Ob := fun r => (.one (vw Packet.cod r.1), [.cells (li .i64 r.2.id_ :: li .i64 r.2.n :: li .i64 r.2.session :: .ptr 1000001 0 :: zad r.2.asked [lb r.2.busy, li .i64 r.2.seq, li .i64 r.2.thing, li .i64 r.2.e]), .cells [li .i64 r.2.v.client, li .i64 r.2.v.session, li .i64 r.2.v.n, li .i64 r.2.v.beat, li .i64 r.2.v.start, vw Thing.cod r.2.v.things, .osl 1000002 1 0 (r.2.v.log_).length, .mp 1000003], .arr 58 Event.cod.sz 1 (r.2.v.log_).length (zaa Event.cod r.2.v.log_), .map (zaj Key.cells Event.cod r.2.v.wait)])
def zeh (n : Nat) (a0 : Client) : Nat → (List Packet) → Int → Int → Int → Int → Int → Int → (List Thing) → (List Event) → (List (Key × (List Event))) → Option ((List Packet) × Client)
 | 0, _, _, _, _, _, _, _, _, _, _ => none
 | m + 1, l21, i22, i23, i24, i25, i26, i27, l28, l29, l30 =>
  if decide (i22 < a0.n) then
   (F17 n (View.mk i23 i24 i25 i26 i27 l28 l29 l30)).bind fun (r32 : (Int × View)) =>
   if decide (r32.1 < 0) then
    some (l21, (Client.mk a0.id_ a0.n a0.session r32.2 a0.asked a0.busy a0.seq a0.thing a0.e))
   else
    (F17 n r32.2).bind fun (r33 : (Int × View)) =>
    if ((l21).length + 1) * 456 ≤ zae ∧ (l21).length + 1 ≤ zae then
     (zeh n a0 m) (l21 ++ [(Packet.mk (IntKind.wrap .i64 (100 + a0.id_)) i22 5 0 (Command.mk 0 0 0 0 (Point.mk 0 0) (A4.mk (Field.mk 0 ByteArray.empty) (Field.mk 0 ByteArray.empty) (Field.mk 0 ByteArray.empty) (Field.mk 0 ByteArray.empty)) (Field.mk 0 ByteArray.empty) 0 0 (Rect.mk 0 0 0 0)) 0 0 (Note.mk 0 0 ([] : List Thing) ([] : List Hand) ([] : List Thing) ([] : List Command)) (Frame.mk 0 0 0 0 0 ([] : List Event)) a0.session r33.1)]) (IntKind.wrap .i64 (i22 + 1)) r33.2.client r33.2.session r33.2.n r33.2.beat r33.2.start r33.2.things r33.2.log_ r33.2.wait
    else none
  else
   some (l21, (Client.mk a0.id_ a0.n a0.session (View.mk i23 i24 i25 i26 i27 l28 l29 l30) a0.asked a0.busy a0.seq a0.thing a0.e))
theorem F30_l31_ok (n : Nat) (a0 : Client) : ∀ (m : Nat) (l21 : (List Packet)) (i22 i23 i24 i25 i26 i27 : Int) (l28 : (List Thing)) (l29 : (List Event)) (l30 : (List (Key × (List Event)))), SimL Try.prog D (n + 8) m p30c27 (W65 l21 a0 i22) (W12 l21 a0 i23 i24 i25 i26 i27 l28 l29 l30) (zeh n a0 m l21 i22 i23 i24 i25 i26 i27 l28 l29 l30) (QB 0 (QT Try.prog D (n + 8) p30c33 (QF false pc30_r 4 F30_e))) := by
 intro m_l31
 induction m_l31 with
 | zero => intro l21 i22 i23 i24 i25 i26 i27 l28 l29 l30; exact SimL.zero'  rfl
 | succ m_l31 ih_l31 =>
  intro l21 i22 i23 i24 i25 i26 i27 l28 l29 l30
  refine SimL.succ ?_
  unfold zeh
  refine Sim.seq (.rg (W65 l21 a0 i22) (W12 l21 a0 i23 i24 i25 i26 i27 l28 l29 l30) (.ru 1 [] (.thenN (.seq (.cd _ ?_ ?_)))))
  ·refine Sim.skip (.thenN (.seq (.block (.su 2 [] (.seq (.sv 4 [] (.bn ⟨some 27, .gcall false false W54 [[]] 17 [26], none, []⟩ (fun r32 => [(27, qj r32.1)]) (fun r32 => (W48 r32)) (fun r32 hr => pe (gq (ks := W54) (ARGS := [qp 1000001 0]) (F17_ok _ _ _ hr))) (fun r32 => ?_))))))))
   refine SimI.ru 1 [] (.thenN (.cd _ ?_ ?_))
   ·exact Sim.exit (.thenX (.blockY rfl (.thenX (.loopX (.blockX (.thenN (.su 2 [] (.ret (.fin (zek (vs := [.one (vw Packet.cod l21)]) (zaq (zaw (c := Packet.cod) (k := 100003) (g := 0) (el := 73) (l := l21) (by kernel_rfl) (by kernel_rfl) (by kernel_rfl)) (zbe)) (by kernel_rfl)))))))))))
   ·refine Sim.skip (.thenN (.region0 (.rv 15 [] (.bn ⟨some 44, .gcall false false W54 [[]] 17 [43], none, [(43, .at_ 1000001 0)]⟩ (fun r33 => [(44, qj r33.1)]) (fun r33 => (W44 r33)) (fun r33 hr => pe (gq (ks := W54) (ARGS := [qp 1000001 0]) (F17_ok _ _ _ hr))) (fun r33 => ?_)))))
    refine SimI.rv 2 [] (.gu ⟨some 47, .app 100003 73 42 456 29 46, none, [(29, Hint.obj 100003), (46, .imm)]⟩ (W50 l21 a0 i22 r33) (W17 l21 a0 i22 r33) (fun hc => pe (zcx (c := Packet.cod) (g := 0) (l := l21) (a := (Packet.mk (iw .i64 (100 + a0.id_)) i22 5 0 (Command.mk 0 0 0 0 (Point.mk 0 0) (A4.mk (Field.mk 0 be) (Field.mk 0 be) (Field.mk 0 be) (Field.mk 0 be)) (Field.mk 0 be) 0 0 (Rect.mk 0 0 0 0)) 0 0 (Note.mk 0 0 ([] : List Thing) ([] : List Hand) ([] : List Thing) ([] : List Command)) (Frame.mk 0 0 0 0 0 ([] : List Event)) a0.session r33.1)) (by kernel_rfl) (by kernel_rfl) (by kernel_rfl) (by kernel_rfl) hc)) (.ru 1 [] (.blockN (.thenN (.region0 (.ru 2 [] (.loopN (.pr [0, 3, 19, 20] W51 [(false, 3, 0, 100003, 73, 42)] (W41 l21 a0 i22 r33) (W11 l21 a0 i22 r33) ?_))))))))
    exact ih_l31 (l21 ++ [(Packet.mk (iw .i64 (100 + a0.id_)) i22 5 0 (Command.mk 0 0 0 0 (Point.mk 0 0) (A4.mk (Field.mk 0 be) (Field.mk 0 be) (Field.mk 0 be) (Field.mk 0 be)) (Field.mk 0 be) 0 0 (Rect.mk 0 0 0 0)) 0 0 (Note.mk 0 0 ([] : List Thing) ([] : List Hand) ([] : List Thing) ([] : List Command)) (Frame.mk 0 0 0 0 0 ([] : List Event)) a0.session r33.1)]) (iw .i64 (i22 + 1)) r33.2.client r33.2.session r33.2.n r33.2.beat r33.2.start r33.2.things r33.2.log_ r33.2.wait
  ·exact Sim.exit (.thenX (.loopX (.blockX (.thenN (.su 2 [] (.ret (.fin (zek (vs := [.one (vw Packet.cod l21)]) (zaq (zaw (c := Packet.cod) (k := 100003) (g := 0) (el := 73) (l := l21) (by kernel_rfl) (by kernel_rfl) (by kernel_rfl)) (zbe)) (by kernel_rfl)))))))))
def F30_l64 (n : Nat) (a0 : Client) : Nat → (List Packet) → Int → Int → Int → Int → Int → Int → (List Thing) → (List Event) → (List (Key × (List Event))) → Option ((List Packet) × Client)
 | 0, _, _, _, _, _, _, _, _, _, _ => none
 | m + 1, l54, i55, i56, i57, i58, i59, i60, l61, l62, l63 =>
  if decide (i55 < a0.n) then
   (F17 n (View.mk i56 i57 i58 i59 i60 l61 l62 l63)).bind fun (r65 : (Int × View)) =>
   if decide (r65.1 < 0) then
    some (l54, (Client.mk a0.id_ a0.n a0.session r65.2 a0.asked a0.busy a0.seq a0.thing a0.e))
   else
    (F17 n r65.2).bind fun (r66 : (Int × View)) =>
    if ((l54).length + 1) * 456 ≤ zae ∧ (l54).length + 1 ≤ zae then
     (F30_l64 n a0 m) (l54 ++ [(Packet.mk (IntKind.wrap .i64 (100 + a0.id_)) i55 5 0 (Command.mk 0 0 0 0 (Point.mk 0 0) (A4.mk (Field.mk 0 ByteArray.empty) (Field.mk 0 ByteArray.empty) (Field.mk 0 ByteArray.empty) (Field.mk 0 ByteArray.empty)) (Field.mk 0 ByteArray.empty) 0 0 (Rect.mk 0 0 0 0)) 0 0 (Note.mk 0 0 ([] : List Thing) ([] : List Hand) ([] : List Thing) ([] : List Command)) (Frame.mk 0 0 0 0 0 ([] : List Event)) a0.session r66.1)]) (IntKind.wrap .i64 (i55 + 1)) r66.2.client r66.2.session r66.2.n r66.2.beat r66.2.start r66.2.things r66.2.log_ r66.2.wait
    else none
  else
   some (l54, (Client.mk a0.id_ a0.n a0.session (View.mk i56 i57 i58 i59 i60 l61 l62 l63) a0.asked a0.busy a0.seq a0.thing a0.e))
theorem F30_l64_ok (n : Nat) (a0 : Client) : ∀ (m : Nat) (l54 : (List Packet)) (i55 i56 i57 i58 i59 i60 : Int) (l61 : (List Thing)) (l62 : (List Event)) (l63 : (List (Key × (List Event)))), SimL Try.prog D (n + 8) m p30c27 (W65 l54 a0 i55) (W12 l54 a0 i56 i57 i58 i59 i60 l61 l62 l63) (F30_l64 n a0 m l54 i55 i56 i57 i58 i59 i60 l61 l62 l63) (QB 0 (QT Try.prog D (n + 8) p30c33 (QF false pc30_r 4 F30_e))) := by
 intro m_l64
 induction m_l64 with
 | zero => intro l54 i55 i56 i57 i58 i59 i60 l61 l62 l63; exact SimL.zero'  rfl
 | succ m_l64 ih_l64 =>
  intro l54 i55 i56 i57 i58 i59 i60 l61 l62 l63
  refine SimL.succ ?_
  unfold F30_l64
  refine Sim.seq (.rg (W65 l54 a0 i55) (W12 l54 a0 i56 i57 i58 i59 i60 l61 l62 l63) (.ru 1 [] (.thenN (.seq (.cd _ ?_ ?_)))))
  ·refine Sim.skip (.thenN (.seq (.block (.su 2 [] (.seq (.sv 4 [] (.bn ⟨some 27, .gcall false false W54 [[]] 17 [26], none, []⟩ (fun r65 => [(27, qj r65.1)]) (fun r65 => (W48 r65)) (fun r65 hr => pe (gq (ks := W54) (ARGS := [qp 1000001 0]) (F17_ok _ _ _ hr))) (fun r65 => ?_))))))))
   refine SimI.ru 1 [] (.thenN (.cd _ ?_ ?_))
   ·exact Sim.exit (.thenX (.blockY rfl (.thenX (.loopX (.blockX (.thenN (.su 2 [] (.ret (.fin (zek (vs := [.one (vw Packet.cod l54)]) (zaq (zaw (c := Packet.cod) (k := 100003) (g := 0) (el := 73) (l := l54) (by kernel_rfl) (by kernel_rfl) (by kernel_rfl)) (zbe)) (by kernel_rfl)))))))))))
   ·refine Sim.skip (.thenN (.region0 (.rv 15 [] (.bn ⟨some 44, .gcall false false W54 [[]] 17 [43], none, [(43, .at_ 1000001 0)]⟩ (fun r66 => [(44, qj r66.1)]) (fun r66 => (W44 r66)) (fun r66 hr => pe (gq (ks := W54) (ARGS := [qp 1000001 0]) (F17_ok _ _ _ hr))) (fun r66 => ?_)))))
    refine SimI.rv 2 [] (.gu ⟨some 47, .app 100003 73 42 456 29 46, none, [(29, Hint.obj 100003), (46, .imm)]⟩ (W50 l54 a0 i55 r66) (W17 l54 a0 i55 r66) (fun hc => pe (zcx (c := Packet.cod) (g := 0) (l := l54) (a := (Packet.mk (iw .i64 (100 + a0.id_)) i55 5 0 (Command.mk 0 0 0 0 (Point.mk 0 0) (A4.mk (Field.mk 0 be) (Field.mk 0 be) (Field.mk 0 be) (Field.mk 0 be)) (Field.mk 0 be) 0 0 (Rect.mk 0 0 0 0)) 0 0 (Note.mk 0 0 ([] : List Thing) ([] : List Hand) ([] : List Thing) ([] : List Command)) (Frame.mk 0 0 0 0 0 ([] : List Event)) a0.session r66.1)) (by kernel_rfl) (by kernel_rfl) (by kernel_rfl) (by kernel_rfl) hc)) (.ru 1 [] (.blockN (.thenN (.region0 (.ru 2 [] (.loopN (.pr [0, 3, 19, 20] W51 [(false, 3, 0, 100003, 73, 42)] (W41 l54 a0 i55 r66) (W11 l54 a0 i55 r66) ?_))))))))
    exact ih_l64 (l54 ++ [(Packet.mk (iw .i64 (100 + a0.id_)) i55 5 0 (Command.mk 0 0 0 0 (Point.mk 0 0) (A4.mk (Field.mk 0 be) (Field.mk 0 be) (Field.mk 0 be) (Field.mk 0 be)) (Field.mk 0 be) 0 0 (Rect.mk 0 0 0 0)) 0 0 (Note.mk 0 0 ([] : List Thing) ([] : List Hand) ([] : List Thing) ([] : List Command)) (Frame.mk 0 0 0 0 0 ([] : List Event)) a0.session r66.1)]) (iw .i64 (i55 + 1)) r66.2.client r66.2.session r66.2.n r66.2.beat r66.2.start r66.2.things r66.2.log_ r66.2.wait
  ·exact Sim.exit (.thenX (.loopX (.blockX (.thenN (.su 2 [] (.ret (.fin (zek (vs := [.one (vw Packet.cod l54)]) (zaq (zaw (c := Packet.cod) (k := 100003) (g := 0) (el := 73) (l := l54) (by kernel_rfl) (by kernel_rfl) (by kernel_rfl)) (zbe)) (by kernel_rfl)))))))))
def F30 (n : Nat) (a0 : Client) : Option ((List Packet) × Client) :=
 if a0.busy then
  if (([] : List Packet).length + 1) * 456 ≤ zae ∧ ([] : List Packet).length + 1 ≤ zae then
   zeh n a0 (n + 8) [a0.asked] 0 a0.v.client a0.v.session a0.v.n a0.v.beat a0.v.start a0.v.things a0.v.log_ a0.v.wait
  else none
 else
  F30_l64 n a0 (n + 8) ([] : List Packet) 0 a0.v.client a0.v.session a0.v.n a0.v.beat a0.v.start a0.v.things a0.v.log_ a0.v.wait
theorem F30_ok (n : Nat) (a0 : Client) : ∀ r, F30 n a0 = some r → D 30 [.one (.ptr 1000000 0)] [.cells (li .i64 a0.id_ :: li .i64 a0.n :: li .i64 a0.session :: .ptr 1000001 0 :: zad a0.asked [lb a0.busy, li .i64 a0.seq, li .i64 a0.thing, li .i64 a0.e]), .cells [li .i64 a0.v.client, li .i64 a0.v.session, li .i64 a0.v.n, li .i64 a0.v.beat, li .i64 a0.v.start, vw Thing.cod a0.v.things, .osl 1000002 0 0 (a0.v.log_).length, .mp 1000003], .arr 58 Event.cod.sz 0 (a0.v.log_).length (zaa Event.cod a0.v.log_), .map (zaj Key.cells Event.cod a0.v.wait)] = some (F30_e r) := by
 refine zan (D := D) (n := n + 8) (nt := 50) (rs := pc30_r) (c := p30c39) (L := [(0, qp 1000000 0)]) (M := (W3 a0)) (k := 4) rfl rfl rfl rfl rfl rfl rfl ?_
 unfold F30
 refine Sim.su 1 [] (.scope (.su 1 [] (.seq (.su 4 [] (.cd _ ?_ ?_)))))
 ·refine Sim.region0 (.rv 6 [] (.gu ⟨some 15, .app 100003 73 42 456 9 14, none, []⟩ [(15, .one (.osl 100003 0 0 ([a0.asked]).length))] [(100003, some (.arr 73 Packet.cod.sz 0 ([a0.asked]).length (zaa Packet.cod [a0.asked])))] (fun hc => pe (eff_appN (c := Packet.cod) (a := a0.asked) (by kernel_rfl) (by kernel_rfl) (by kernel_rfl) (by kernel_rfl) (by kernel_rfl) (by kernel_rfl))) (.ru 1 [] (.thenN (.seq (.label (.thenN (.seq (.su 5 [] (.block (.loop (.pr [0, 3, 19, 20] W51 [(false, 3, 0, 100003, 73, 42)] [(0, qp 1000000 0), (3, .one (.osl 100003 0 0 ([a0.asked]).length)), (19, qj a0.n), (20, qj 0)] [(100003, some (.arr 73 Packet.cod.sz 0 ([a0.asked]).length (zaa Packet.cod [a0.asked]))), (1000000, some (.cells (lj a0.id_ :: lj a0.n :: lj a0.session :: .ptr 1000001 0 :: zad a0.asked (W70 a0)))), (1000001, some (.cells (W71 a0))), (1000002, some (.arr 58 Event.cod.sz 1 (a0.v.log_).length (zaa Event.cod a0.v.log_))), (1000003, some (.map (zaj Key.cells Event.cod a0.v.wait)))] ?_))))))))))))
  exact F30_l31_ok n a0 (n + 8) [a0.asked] 0 a0.v.client a0.v.session a0.v.n a0.v.beat a0.v.start a0.v.things a0.v.log_ a0.v.wait
 ·refine Sim.skip (.thenN (.seq (.label (.thenN (.seq (.su 5 [] (.block (.loop (.pr [0, 3, 19, 20] W51 [(false, 3, 0, 100003, 73, 42)] [(0, qp 1000000 0), (3, .one (.osl 100003 0 0 (([] : List Packet)).length)), (19, qj a0.n), (20, qj 0)] [(100003, some (.arr 73 Packet.cod.sz 0 (([] : List Packet)).length (zaa Packet.cod ([] : List Packet)))), (1000000, some (.cells (lj a0.id_ :: lj a0.n :: lj a0.session :: .ptr 1000001 0 :: zad a0.asked (W70 a0)))), (1000001, some (.cells (W71 a0))), (1000002, some (.arr 58 Event.cod.sz 1 (a0.v.log_).length (zaa Event.cod a0.v.log_))), (1000003, some (.map (zaj Key.cells Event.cod a0.v.wait)))] ?_)))))))))
  exact F30_l64_ok n a0 (n + 8) ([] : List Packet) 0 a0.v.client a0.v.session a0.v.n a0.v.beat a0.v.start a0.v.things a0.v.log_ a0.v.wait
def F77_e : Bool → PV × List Ob := fun r => (.one (lb r), [])
def F77 (n : Nat) (a0 : Point) : Option Bool :=
 if decide ((0 : Int) ≤ a0.X) then
  if decide (a0.X < 64) then
   if decide ((0 : Int) ≤ a0.Y) then
    some (decide (a0.Y < 64))
   else
    some false
  else
   some false
 else
  some false
theorem F77_ok (n : Nat) (a0 : Point) : ∀ r, F77 n a0 = some r → D 77 [.agg [li .i64 a0.X, li .i64 a0.Y]] [] = some (F77_e r) := by
 refine zan (D := D) (n := n + 8) (nt := 21) (rs := pc77_r) (c := p77c5) (L := [(0, .agg [lj a0.X, lj a0.Y])]) (M := []) (k := 0) rfl rfl rfl rfl rfl rfl rfl ?_
 unfold F77
 refine Sim.su 2 [(1, some (.cells [lj a0.X, lj a0.Y]))] (.st 4 (w29 a0) [] (.sp 6 _ ?_ ?_))
 ·refine SimI.rn 5 (w30 a0) [] (.sp 11 _ ?_ ?_)
  ·refine SimI.rn 5 (w31 a0) [] (.sp 16 _ ?_ ?_)
   ·exact SimI.rd 5 (w32 a0) [] (.thenN (.ret .fn))
   ·exact SimI.ru 5 [] (.thenN (.ret .fn))
  ·exact SimI.ru 10 [] (.thenN (.ret .fn))
 ·exact SimI.ru 15 [] (.thenN (.ret .fn))
def F79_e : Bool → PV × List Ob := fun r => (.one (lb r), [])
def F79 (n : Nat) (a0 : Field) : Option Bool :=
 (F62 n a0).bind fun (r1 : Bool) =>
 some (!(r1))
theorem F79_ok (n : Nat) (a0 : Field) : ∀ r, F79 n a0 = some r → D 79 [.agg [li .i64 a0.N, ls a0.Text]] [] = some (F79_e r) := by
 refine zan (D := D) (n := n + 8) (nt := 6) (rs := pc79_r) (c := p79c5) (L := [(0, .agg [lj a0.N, ls a0.Text])]) (M := []) (k := 0) rfl rfl rfl rfl rfl rfl rfl ?_
 unfold F79
 refine Sim.su 2 (W85 a0) (.sv 1 [] (.cl 4 true [[]] 62 [3] none (fun r1 => qb r1) [.agg [lj a0.N, ls a0.Text]] (zfa _ _) (fun r1 => ?_)))
 exact SimI.ru 2 [] (.thenN (.ret .fn))
def F91s0_e (a0 : (List Field)) : Int → PV × List Ob := fun r => (.one (li .i64 r), [])
def zci (n : Nat) (a0 : (List Field)) : Nat → Int → Option Int
 | 0, _ => none
 | m + 1, i3 =>
  if decide (i3 < ((a0).length : Int)) then
   (ix a0 i3).bind fun (x5 : Field) =>
   (F79 n x5).bind fun (r6 : Bool) =>
   if r6 then
    some i3
   else
    (zci n a0 m) (IntKind.wrap .i64 (i3 + 1))
  else
   some (-1)
theorem F91s0_l4_ok (n : Nat) (a0 : (List Field)) : ∀ (m : Nat) (i3 : Int), SimL Try.prog D (n + 8) m p91c20 [(0, .one (vw Field.cod a0)), (1, .one (.val (.func (.func 79) #[] #[]))), (7, qj ((a0).length : Int)), (8, qj i3)] [] (zci n a0 m i3) (QB 0 (QT Try.prog D (n + 8) p91c26 (QF false pc91_r 0 (F91s0_e a0)))) := by
 intro m_l4
 induction m_l4 with
 | zero => intro i3; exact SimL.zero'  rfl
 | succ m_l4 ih_l4 =>
  intro i3
  refine SimL.succ ?_
  unfold zci
  refine Sim.seq (.rg [(0, .one (vw Field.cod a0)), (1, .one (.val (.func (.func 79) #[] #[]))), (7, qj ((a0).length : Int)), (8, qj i3)] [] (.ru 1 [] (.thenN (.seq (.cd _ ?_ ?_)))))
  ·refine Sim.skip (.thenN (.seq (.block (.su 2 [] (.sv 3 [] (.bn ⟨some 14, .iaddrS 2 12 13, none, []⟩ (fun x5 => [(14, .one (.eptr (Field.cod.enc x5) 0))]) (fun x5 => []) (fun x5 hr => pe (ei (c := Field.cod) (k := .i64) hr)) (fun x5 => ?_)))))))
   refine SimI.rv 1 [] (.bn ⟨some 16, .callv true [[]] 11 [15], none, []⟩ (fun r6 => [(16, qb r6)]) (fun r6 => []) (fun r6 hr => pe (zes (by kernel_rfl) (ARGS := [.agg [lj x5.N, ls x5.Text]]) (by kernel_rfl) (zbt (by kernel_rfl) args_nil) (F79_ok _ _ _ hr) (by kernel_rfl))) (fun r6 => ?_))
   refine SimI.dn (.thenN (.cd _ ?_ ?_))
   ·exact Sim.su 2 [] (.ret (.blockR (.thenR (.loopR (.blockR (.thenR .fn))))))
   ·refine Sim.skip (.blockN (.thenN (.region0 (.ru 2 [] (.loopN (.pr [0, 1, 7, 8] [] [] [(0, .one (vw Field.cod a0)), (1, .one (.val (.func (.func 79) #[] #[]))), (7, qj ((a0).length : Int)), (8, qj (iw .i64 (i3 + 1)))] [] ?_))))))
    exact ih_l4 (iw .i64 (i3 + 1))
  ·exact Sim.exit (.thenX (.loopX (.blockX (.thenN (.su 1 [] (.ret .fn))))))
def F91s0 (n : Nat) (a0 : (List Field)) : Option Int :=
 zci n a0 (n + 8) 0
theorem F91s0_ok (n : Nat) (a0 : (List Field)) : ∀ r, F91s0 n a0 = some r → D 91 [.one (vw Field.cod a0), .one (.val (.func (.func 79) #[] #[]))] [] = some ((F91s0_e a0) r) := by
 refine zan (D := D) (n := n + 8) (nt := 19) (rs := pc91_r) (c := p91c28) (L := [(0, .one (vw Field.cod a0)), (1, .one (.val (.func (.func 79) #[] #[])))]) (M := []) (k := 0) rfl rfl rfl rfl rfl rfl rfl ?_
 unfold F91s0
 refine Sim.su 1 [] (.seq (.su 3 [] (.block (.loop (.pr [0, 1, 7, 8] [] [] [(0, .one (vw Field.cod a0)), (1, .one (.val (.func (.func 79) #[] #[]))), (7, qj ((a0).length : Int)), (8, qj 0)] [] ?_)))))
 exact F91s0_l4_ok n a0 (n + 8) 0
def F78s0_e (a0 : (List Field)) : Bool → PV × List Ob := fun r => (.one (lb r), [])
def F78s0 (n : Nat) (a0 : (List Field)) : Option Bool :=
 (F91s0 n a0).bind fun (r1 : Int) =>
 some (decide ((0 : Int) ≤ r1))
theorem F78s0_ok (n : Nat) (a0 : (List Field)) : ∀ r, F78s0 n a0 = some r → D 78 [.one (vw Field.cod a0), .one (.val (.func (.func 79) #[] #[]))] [] = some ((F78s0_e a0) r) := by
 refine zan (D := D) (n := n + 8) (nt := 9) (rs := pc78_r) (c := p78c5) (L := [(0, .one (vw Field.cod a0)), (1, .one (.val (.func (.func 79) #[] #[])))]) (M := []) (k := 0) rfl rfl rfl rfl rfl rfl rfl ?_
 unfold F78s0
 refine Sim.su 1 [] (.sv 2 [] (.bn ⟨some 7, .gcall false false [] [[(0, 2)], []] 91 [5, 6], none, []⟩ (fun r1 => [(7, qj r1)]) (fun r1 => []) (fun r1 hr => pe (gq (ks := []) (ARGS := [.one (vw Field.cod a0), .one (.val (.func (.func 79) #[] #[]))]) (F91s0_ok _ _ _ hr))) (fun r1 => ?_)))
 exact SimI.ru 2 [] (.thenN (.ret .fn))
def F72_e : Bool → PV × List Ob := fun r => (.one (lb r), [])
def F72 (n : Nat) (a0 : Thing) : Option Bool :=
 if decide ((0 : Int) ≤ a0.ID) then
  if decide (a0.ID ≤ 1000000) then
   (F77 n a0.At).bind fun (r1 : Bool) =>
   if r1 then
    (F78s0 n [a0.F.a0, a0.F.a1, a0.F.a2, a0.F.a3]).bind fun (r2 : Bool) =>
    some (!(r2))
   else
    some false
  else
   some false
 else
  some false
theorem F72_ok (n : Nat) (a0 : Thing) : ∀ r, F72 n a0 = some r → D 72 [.agg (Thing.cells a0)] [] = some (F72_e r) := by
 refine zan (D := D) (n := n + 8) (nt := 22) (rs := pc72_r) (c := p72c5) (L := [(0, .agg (Thing.cells a0))]) (M := []) (k := 0) rfl rfl rfl rfl rfl rfl rfl ?_
 unfold F72
 refine Sim.su 2 (W15 a0) (.sv 4 [] (.sp 6 _ ?_ ?_))
 ·refine SimI.rv 5 [] (.sp 11 _ ?_ ?_)
  ·refine SimI.rv 2 [] (.cl 14 true [[]] 77 [13] (some (11, true)) (fun r1 => qb r1) [.agg [lj a0.At.X, lj a0.At.Y]] (F77_ok _ _) (fun r1 => ?_))
   refine SimI.rv 2 [] (.sp 16 _ ?_ ?_)
   ·refine SimI.rv 2 [] (.bn ⟨some 19, .gcall false false [1] [[(0, 2)], []] 78 [18, Operand.func 79], some (16, true), []⟩ (fun r2 => [(19, qb r2)]) (fun r2 => []) (fun r2 hr => pe (zar (ks := []) (rks := [1]) (new := []) (ARGS := [.one (.csl 1 2 3 4), .one (.val (.func (.func 79) #[] #[]))]) (args1 := (W83 a0)) (args2 := (W83 a0)) (os := []) (os' := []) (os1 := []) (res := qb r2) (res1 := qb r2) (r := qb r2) (N := []) (by kernel_rfl) (zax (readA_csl (c := Field.cod) (k := 1) (off := 3) (cs := (Thing.cells a0)) (l := [a0.F.a0, a0.F.a1, a0.F.a2, a0.F.a3]) (by kernel_rfl) (by kernel_rfl) (by kernel_rfl) (by kernel_rfl) (zak (by kernel_rfl) (zas)))) (by kernel_rfl) (by kernel_rfl) (by kernel_rfl) (by kernel_rfl) (F78s0_ok _ _ _ hr) (by kernel_rfl) (by kernel_rfl) (by kernel_rfl) rfl (by kernel_rfl) (by kernel_rfl) (by kernel_rfl))) (fun r2 => ?_))
    exact SimI.ru 3 [] (.thenN (.ret .fn))
   ·exact SimI.ru 6 [] (.thenN (.ret .fn))
  ·exact SimI.ru 11 [] (.thenN (.ret .fn))
 ·exact SimI.ru 16 [] (.thenN (.ret .fn))
def F80_e : Bool → PV × List Ob := fun r => (.one (lb r), [])
def F80 (n : Nat) (a0 a1 : Int) : Option Bool :=
 if ¬ (IntKind.wrap .i64 (a1 + 1) < 0) then
  some ((zav .and .u8 (shrI .u8 a0 (IntKind.wrap .i64 (a1 + 1))) 1) == 1)
 else none
theorem F80_ok (n : Nat) (a0 a1 : Int) : ∀ r, F80 n a0 a1 = some r → D 80 [.one (li .u8 a0), .one (li .i64 a1)] [] = some (F80_e r) := by
 refine zan (D := D) (n := n + 8) (nt := 11) (rs := pc80_r) (c := p80c5) (L := [(0, .one (li .u8 a0)), (1, qj a1)]) (M := []) (k := 0) rfl rfl rfl rfl rfl rfl rfl ?_
 unfold F80
 exact Sim.su 1 [] (.sv 3 [] (.gp 8 (.bin .shr 5 false false) [5, 7] none [] (fun hc => pr_shr _ _ _ .u8 .i64 a0 (iw .i64 (a1 + 1)) hc) (.ru 3 [] (.thenN (.ret .fn)))))
def F73_e : Bool → PV × List Ob := fun r => (.one (lb r), [])
def F73_u15 (n : Nat) : Option Bool :=
  some true
theorem F73_u15_ok (n : Nat) (a0 : Delta) : SimL Try.prog D (n + 8) (n + 4) p73c34 [(1, qp 1 0), (40, .agg (A4_Field.cells a0.F)), (41, qj 4)] (W10 a0) (F73_u15 n) (QB 0 (QT Try.prog D (n + 8) p73c40 (QF false pc73_r 0 F73_e))) := by
  unfold F73_u15
  exact SimL.succ (.seq (.rg (w14 a0) (W10 a0) (.ru 1 [] (.thenN (.seq (.cf (.exit (.thenX (.loopX (.blockX (.thenN (.su 1 [] (.ret .fn)))))))))))))
def F73_u12 (n : Nat) (a0 : Delta) : Option Bool :=
  (F62 n a0.F.a3).bind fun (r13 : Bool) =>
  if !(r13) then
   some false
  else
   (F80 n a0.Mask 3).bind fun (r14 : Bool) =>
   if !(r14) then
    if !(Field.eqb a0.F.a3 (Field.mk 0 ByteArray.empty)) then
     some false
    else
     F73_u15 n
   else
    F73_u15 n
theorem F73_u12_ok (n : Nat) (a0 : Delta) : SimL Try.prog D (n + 8) (n + 5) p73c34 [(1, qp 1 0), (40, .agg (A4_Field.cells a0.F)), (41, qj 3)] (W10 a0) (F73_u12 n a0) (QB 0 (QT Try.prog D (n + 8) p73c40 (QF false pc73_r 0 F73_e))) := by
  unfold F73_u12
  refine SimL.succ (.seq (.rg (w15 a0) (W10 a0) (.ru 1 [] (.thenN (.seq (.ct (.skip (.thenN (.seq (.block (.su 5 [(4, some (.cells (W77 a0))), (4, some (.cells [lj 0, ls be]))] (.sv 1 [] (.cl 46 true [[]] 62 [45] none (fun r13 => qb r13) [.agg (W77 a0)] (zfa _ _) (fun r13 => ?_))))))))))))))
  refine SimI.rv 2 [] (.sp 48 _ ?_ ?_)
  ·exact SimI.ru 11 [] (.thenN (.ct (.su 1 [] (.ret (.blockR (.thenR (.loopR (.blockR (.thenR .fn)))))))))
  ·refine SimI.rv 3 [] (.cl 52 true [[], []] 80 [50, 51] (some (48, false)) (fun r14 => qb r14) [.one (li .u8 a0.Mask), qj 3] (F80_ok _ _ _) (fun r14 => ?_))
   refine SimI.rv 2 [] (.sp 54 _ ?_ ?_)
   ·refine SimI.rv 2 [] (.se ⟨some 57, .prim (.bin .neq 51 false false) [55, 56], some (54, true), []⟩ [(57, qb (!(Field.eqb a0.F.a3 (Field.mk 0 be))))] [] (pe (ep (zcb a0.F.a3 (Field.mk 0 be) _ _))) (.ru 2 [] (.thenN (.cd _ ?_ ?_))))
    ·exact Sim.su 1 [] (.ret (.blockR (.thenR (.loopR (.blockR (.thenR .fn))))))
    ·refine Sim.skip (.blockN (.thenN (.region0 (.ru 2 [] (.loopN (.pr [1, 40, 41] [1, 4] [] (w14 a0) (W10 a0) ?_))))))
     exact F73_u15_ok n a0
   ·refine SimI.ru 5 [] (.thenN (.cf (.skip (.blockN (.thenN (.region0 (.ru 2 [] (.loopN (.pr [1, 40, 41] [1, 4] [] (w14 a0) (W10 a0) ?_)))))))))
    exact F73_u15_ok n a0
def F73_u9 (n : Nat) (a0 : Delta) : Option Bool :=
  (F62 n a0.F.a2).bind fun (r10 : Bool) =>
  if !(r10) then
   some false
  else
   (F80 n a0.Mask 2).bind fun (r11 : Bool) =>
   if !(r11) then
    if !(Field.eqb a0.F.a2 (Field.mk 0 ByteArray.empty)) then
     some false
    else
     F73_u12 n a0
   else
    F73_u12 n a0
theorem F73_u9_ok (n : Nat) (a0 : Delta) : SimL Try.prog D (n + 8) (n + 6) p73c34 [(1, qp 1 0), (40, .agg (A4_Field.cells a0.F)), (41, qj 2)] (W10 a0) (F73_u9 n a0) (QB 0 (QT Try.prog D (n + 8) p73c40 (QF false pc73_r 0 F73_e))) := by
  unfold F73_u9
  refine SimL.succ (.seq (.rg (w16 a0) (W10 a0) (.ru 1 [] (.thenN (.seq (.ct (.skip (.thenN (.seq (.block (.su 5 [(4, some (.cells (W78 a0))), (4, some (.cells [lj 0, ls be]))] (.sv 1 [] (.cl 46 true [[]] 62 [45] none (fun r10 => qb r10) [.agg (W78 a0)] (zfa _ _) (fun r10 => ?_))))))))))))))
  refine SimI.rv 2 [] (.sp 48 _ ?_ ?_)
  ·exact SimI.ru 11 [] (.thenN (.ct (.su 1 [] (.ret (.blockR (.thenR (.loopR (.blockR (.thenR .fn)))))))))
  ·refine SimI.rv 3 [] (.cl 52 true [[], []] 80 [50, 51] (some (48, false)) (fun r11 => qb r11) [.one (li .u8 a0.Mask), qj 2] (F80_ok _ _ _) (fun r11 => ?_))
   refine SimI.rv 2 [] (.sp 54 _ ?_ ?_)
   ·refine SimI.rv 2 [] (.se ⟨some 57, .prim (.bin .neq 51 false false) [55, 56], some (54, true), []⟩ [(57, qb (!(Field.eqb a0.F.a2 (Field.mk 0 be))))] [] (pe (ep (zcb a0.F.a2 (Field.mk 0 be) _ _))) (.ru 2 [] (.thenN (.cd _ ?_ ?_))))
    ·exact Sim.su 1 [] (.ret (.blockR (.thenR (.loopR (.blockR (.thenR .fn))))))
    ·refine Sim.skip (.blockN (.thenN (.region0 (.ru 2 [] (.loopN (.pr [1, 40, 41] [1, 4] [] (w15 a0) (W10 a0) ?_))))))
     exact F73_u12_ok n a0
   ·refine SimI.ru 5 [] (.thenN (.cf (.skip (.blockN (.thenN (.region0 (.ru 2 [] (.loopN (.pr [1, 40, 41] [1, 4] [] (w15 a0) (W10 a0) ?_)))))))))
    exact F73_u12_ok n a0
def F73_u6 (n : Nat) (a0 : Delta) : Option Bool :=
  (F62 n a0.F.a1).bind fun (r7 : Bool) =>
  if !(r7) then
   some false
  else
   (F80 n a0.Mask 1).bind fun (r8 : Bool) =>
   if !(r8) then
    if !(Field.eqb a0.F.a1 (Field.mk 0 ByteArray.empty)) then
     some false
    else
     F73_u9 n a0
   else
    F73_u9 n a0
theorem F73_u6_ok (n : Nat) (a0 : Delta) : SimL Try.prog D (n + 8) (n + 7) p73c34 [(1, qp 1 0), (40, .agg (A4_Field.cells a0.F)), (41, qj 1)] (W10 a0) (F73_u6 n a0) (QB 0 (QT Try.prog D (n + 8) p73c40 (QF false pc73_r 0 F73_e))) := by
  unfold F73_u6
  refine SimL.succ (.seq (.rg (w17 a0) (W10 a0) (.ru 1 [] (.thenN (.seq (.ct (.skip (.thenN (.seq (.block (.su 5 [(4, some (.cells (W79 a0))), (4, some (.cells [lj 0, ls be]))] (.sv 1 [] (.cl 46 true [[]] 62 [45] none (fun r7 => qb r7) [.agg (W79 a0)] (zfa _ _) (fun r7 => ?_))))))))))))))
  refine SimI.rv 2 [] (.sp 48 _ ?_ ?_)
  ·exact SimI.ru 11 [] (.thenN (.ct (.su 1 [] (.ret (.blockR (.thenR (.loopR (.blockR (.thenR .fn)))))))))
  ·refine SimI.rv 3 [] (.cl 52 true [[], []] 80 [50, 51] (some (48, false)) (fun r8 => qb r8) [.one (li .u8 a0.Mask), qj 1] (F80_ok _ _ _) (fun r8 => ?_))
   refine SimI.rv 2 [] (.sp 54 _ ?_ ?_)
   ·refine SimI.rv 2 [] (.se ⟨some 57, .prim (.bin .neq 51 false false) [55, 56], some (54, true), []⟩ [(57, qb (!(Field.eqb a0.F.a1 (Field.mk 0 be))))] [] (pe (ep (zcb a0.F.a1 (Field.mk 0 be) _ _))) (.ru 2 [] (.thenN (.cd _ ?_ ?_))))
    ·exact Sim.su 1 [] (.ret (.blockR (.thenR (.loopR (.blockR (.thenR .fn))))))
    ·refine Sim.skip (.blockN (.thenN (.region0 (.ru 2 [] (.loopN (.pr [1, 40, 41] [1, 4] [] (w16 a0) (W10 a0) ?_))))))
     exact F73_u9_ok n a0
   ·refine SimI.ru 5 [] (.thenN (.cf (.skip (.blockN (.thenN (.region0 (.ru 2 [] (.loopN (.pr [1, 40, 41] [1, 4] [] (w16 a0) (W10 a0) ?_)))))))))
    exact F73_u9_ok n a0
def F73_j3 (n : Nat) (a0 : Delta) : Option Bool :=
  (F62 n a0.F.a0).bind fun (r4 : Bool) =>
  if !(r4) then
   some false
  else
   (F80 n a0.Mask 0).bind fun (r5 : Bool) =>
   if !(r5) then
    if !(Field.eqb a0.F.a0 (Field.mk 0 ByteArray.empty)) then
     some false
    else
     F73_u6 n a0
   else
    F73_u6 n a0
theorem F73_j3_ok (n : Nat) (a0 : Delta) : Sim Try.prog D (n + 8) p73c41 [(1, qp 1 0)] (W10 a0) (F73_j3 n a0) (QF false pc73_r 0 F73_e) := by
  unfold F73_j3
  refine Sim.seq (.seq (.rs (.ru 3 [] (.thenN (.block (.loop (.succ (.seq (.rg [(1, qp 1 0), (40, .agg (A4_Field.cells a0.F)), (41, qj 0)] (W10 a0) (.ru 1 [] (.thenN (.seq (.ct (.skip (.thenN (.seq (.block (.su 5 [(4, some (.cells (W80 a0))), (4, some (.cells [lj 0, ls be]))] (.sv 1 [] (.cl 46 true [[]] 62 [45] none (fun r4 => qb r4) [.agg (W80 a0)] (zfa _ _) (fun r4 => ?_)))))))))))))))))))))
  refine SimI.rv 2 [] (.sp 48 _ ?_ ?_)
  ·exact SimI.ru 11 [] (.thenN (.ct (.su 1 [] (.ret (.blockR (.thenR (.loopR (.blockR (.thenR .fn)))))))))
  ·refine SimI.rv 3 [] (.cl 52 true [[], []] 80 [50, 51] (some (48, false)) (fun r5 => qb r5) [.one (li .u8 a0.Mask), qj 0] (F80_ok _ _ _) (fun r5 => ?_))
   refine SimI.rv 2 [] (.sp 54 _ ?_ ?_)
   ·refine SimI.rv 2 [] (.se ⟨some 57, .prim (.bin .neq 51 false false) [55, 56], some (54, true), []⟩ [(57, qb (!(Field.eqb a0.F.a0 (Field.mk 0 be))))] [] (pe (ep (zcb a0.F.a0 (Field.mk 0 be) _ _))) (.ru 2 [] (.thenN (.cd _ ?_ ?_))))
    ·exact Sim.su 1 [] (.ret (.blockR (.thenR (.loopR (.blockR (.thenR .fn))))))
    ·refine Sim.skip (.blockN (.thenN (.region0 (.ru 2 [] (.loopN (.pr [1, 40, 41] [1, 4] [] (w17 a0) (W10 a0) ?_))))))
     exact F73_u6_ok n a0
   ·refine SimI.ru 5 [] (.thenN (.cf (.skip (.blockN (.thenN (.region0 (.ru 2 [] (.loopN (.pr [1, 40, 41] [1, 4] [] (w17 a0) (W10 a0) ?_)))))))))
    exact F73_u6_ok n a0
def F73 (n : Nat) (a0 : Delta) : Option Bool :=
 if decide (a0.ID < 0) then
  some false
 else
  if decide ((1000000 : Int) < a0.ID) then
   some false
  else
   if a0.Mask == 0 then
    some false
   else
    if decide ((31 : Int) < a0.Mask) then
     some false
    else
     if (zav .and .u8 a0.Mask 1) == 0 then
      if !(Point.eqb a0.At (Point.mk 0 0)) then
       some false
      else
       (F77 n a0.At).bind fun (r1 : Bool) =>
       if !(r1) then
        some false
       else
        F73_j3 n a0
     else
      (F77 n a0.At).bind fun (r2 : Bool) =>
      if !(r2) then
       some false
      else
       F73_j3 n a0
theorem F73_ok (n : Nat) (a0 : Delta) : ∀ r, F73 n a0 = some r → D 73 [.agg (Delta.cells a0)] [] = some (F73_e r) := by
 refine zan (D := D) (n := n + 8) (nt := 61) (rs := pc73_r) (c := p73c44) (L := [(0, .agg (Delta.cells a0))]) (M := []) (k := 0) rfl rfl rfl rfl rfl rfl rfl ?_
 unfold F73
 refine Sim.su 2 (W10 a0) (.seq (.sv 4 [] (.sp 8 _ ?_ ?_)))
 ·exact SimI.ru 14 [] (.thenN (.ct (.su 1 [] (.ret (.thenR .fn)))))
 ·refine SimI.rv 5 [] (.sp 13 _ ?_ ?_)
  ·exact SimI.ru 9 [] (.thenN (.ct (.su 1 [] (.ret (.thenR .fn)))))
  ·refine SimI.rv 5 [] (.sp 18 _ ?_ ?_)
   ·exact SimI.ru 4 [] (.thenN (.ct (.su 1 [] (.ret (.thenR .fn)))))
   ·refine SimI.ru 4 [] (.thenN (.cd _ ?_ ?_))
    ·exact Sim.su 1 [] (.ret (.thenR .fn))
    ·refine Sim.skip (.thenN (.seq (.sv 5 [] (.sp 27 _ ?_ ?_))))
     ·refine SimI.rv 3 [] (.se ⟨some 31, .prim (.bin .neq 49 false false) [29, 30], some (27, true), []⟩ [(31, qb (!(Point.eqb a0.At (Point.mk 0 0))))] [] (pe (ep (Point_eqn a0.At (Point.mk 0 0) _ _))) (.rv 2 [] (.sp 33 _ ?_ ?_)))
      ·exact SimI.ru 5 [] (.thenN (.ct (.su 1 [] (.ret (.thenR .fn)))))
      ·refine SimI.rv 2 [] (.cl 36 true [[]] 77 [35] (some (33, false)) (fun r1 => qb r1) [.agg [lj a0.At.X, lj a0.At.Y]] (F77_ok _ _) (fun r1 => ?_))
       refine SimI.ru 2 [] (.thenN (.cd _ ?_ ?_))
       ·exact Sim.su 1 [] (.ret (.thenR .fn))
       ·refine Sim.skip (.thenN (.pr [1] [1] [] [(1, qp 1 0)] (W10 a0) ?_))
        exact F73_j3_ok n a0
     ·refine SimI.rv 8 [] (.cl 36 true [[]] 77 [35] (some (33, false)) (fun r2 => qb r2) [.agg [lj a0.At.X, lj a0.At.Y]] (F77_ok _ _) (fun r2 => ?_))
      refine SimI.ru 2 [] (.thenN (.cd _ ?_ ?_))
      ·exact Sim.su 1 [] (.ret (.thenR .fn))
      ·refine Sim.skip (.thenN (.pr [1] [1] [] [(1, qp 1 0)] (W10 a0) ?_))
       exact F73_j3_ok n a0
def F57_e : Bool → PV × List Ob := fun r => (.one (lb r), [])
def F57 (n : Nat) (a0 : Event) : Option Bool :=
 if a0.Kind == 1 then
  (F72 n a0.Thing).bind fun (r1 : Bool) =>
  if r1 then
   if a0.ID == a0.Thing.ID then
    some (Delta.eqb a0.Delta (Delta.mk 0 0 (Point.mk 0 0) (A4.mk (Field.mk 0 ByteArray.empty) (Field.mk 0 ByteArray.empty) (Field.mk 0 ByteArray.empty) (Field.mk 0 ByteArray.empty))))
   else
    some false
  else
   some false
 else
  if a0.Kind == 2 then
   (F73 n a0.Delta).bind fun (r2 : Bool) =>
   if r2 then
    if a0.ID == a0.Delta.ID then
     some (Thing.eqb a0.Thing (Thing.mk 0 (Point.mk 0 0) (A4.mk (Field.mk 0 ByteArray.empty) (Field.mk 0 ByteArray.empty) (Field.mk 0 ByteArray.empty) (Field.mk 0 ByteArray.empty))))
    else
     some false
   else
    some false
  else
   if a0.Kind == 3 then
    if decide ((0 : Int) ≤ a0.ID) then
     if decide (a0.ID ≤ 1000000) then
      if Thing.eqb a0.Thing (Thing.mk 0 (Point.mk 0 0) (A4.mk (Field.mk 0 ByteArray.empty) (Field.mk 0 ByteArray.empty) (Field.mk 0 ByteArray.empty) (Field.mk 0 ByteArray.empty))) then
       some (Delta.eqb a0.Delta (Delta.mk 0 0 (Point.mk 0 0) (A4.mk (Field.mk 0 ByteArray.empty) (Field.mk 0 ByteArray.empty) (Field.mk 0 ByteArray.empty) (Field.mk 0 ByteArray.empty))))
      else
       some false
     else
      some false
    else
     some false
   else
    some false
theorem F57_ok (n : Nat) (a0 : Event) : ∀ r, F57 n a0 = some r → D 57 [.agg (Event.cells a0)] [] = some (F57_e r) := by
 refine zan (D := D) (n := n + 8) (nt := 63) (rs := pc57_r) (c := p57c30) (L := [(0, .agg (Event.cells a0))]) (M := []) (k := 0) rfl rfl rfl rfl rfl rfl rfl ?_
 unfold F57
 refine Sim.su 2 [(1, some (.cells (Event.cells a0)))] (.sv 3 [] (.se ⟨some 8, .prim (.bin .eql 54 false false) [6, 7], none, [(6, .imm), (7, .imm)]⟩ [(8, qb (Thing.eqb a0.Thing (Thing.mk 0 (Point.mk 0 0) (A4.mk (Field.mk 0 be) (Field.mk 0 be) (Field.mk 0 be) (Field.mk 0 be)))))] [] (pe (ep (Thing_eql a0.Thing (Thing.mk 0 (Point.mk 0 0) (A4.mk (Field.mk 0 be) (Field.mk 0 be) (Field.mk 0 be) (Field.mk 0 be))) _ _))) (.rv 3 [] (.se ⟨some 12, .prim (.bin .eql 56 false false) [10, 11], none, [(10, .imm), (11, .imm)]⟩ [(12, qb (Delta.eqb a0.Delta (Delta.mk 0 0 (Point.mk 0 0) (A4.mk (Field.mk 0 be) (Field.mk 0 be) (Field.mk 0 be) (Field.mk 0 be)))))] [] (pe (ep (Delta_eql a0.Delta (Delta.mk 0 0 (Point.mk 0 0) (A4.mk (Field.mk 0 be) (Field.mk 0 be) (Field.mk 0 be) (Field.mk 0 be))) _ _))) (.ru 2 [] (.thenN (.seq (.su 2 [] (.block (.su 2 [] (.cd _ ?_ ?_)))))))))))
 ·refine Sim.sv 2 [] (.cl 19 true [[]] 72 [18] none (fun r1 => qb r1) [.agg (Thing.cells a0.Thing)] (F72_ok _ _) (fun r1 => ?_))
  refine SimI.rv 1 [] (.sp 20 _ ?_ ?_)
  ·refine SimI.rv 8 [] (.sp 28 _ ?_ ?_)
   ·exact SimI.ru 3 [] (.thenN (.ret (.blockR (.thenR .fn))))
   ·exact SimI.ru 3 [] (.thenN (.ret (.blockR (.thenR .fn))))
  ·exact SimI.ru 11 [] (.thenN (.ret (.blockR (.thenR .fn))))
 ·refine Sim.su 2 [] (.cd _ ?_ ?_)
  ·refine Sim.sv 2 [] (.cl 35 true [[]] 73 [34] none (fun r2 => qb r2) [.agg (Delta.cells a0.Delta)] (F73_ok _ _) (fun r2 => ?_))
   refine SimI.rv 1 [] (.sp 36 _ ?_ ?_)
   ·refine SimI.rv 8 [] (.sp 44 _ ?_ ?_)
    ·exact SimI.ru 3 [] (.thenN (.ret (.blockR (.thenR .fn))))
    ·exact SimI.ru 3 [] (.thenN (.ret (.blockR (.thenR .fn))))
   ·exact SimI.ru 11 [] (.thenN (.ret (.blockR (.thenR .fn))))
  ·refine Sim.su 2 [] (.cd _ ?_ ?_)
   ·refine Sim.sv 4 [] (.sp 52 _ ?_ ?_)
    ·refine SimI.rv 5 [] (.sp 57 _ ?_ ?_)
     ·refine SimI.rv 3 [] (.sp 60 _ ?_ ?_)
      ·exact SimI.ru 3 [] (.thenN (.ret (.blockR (.thenR .fn))))
      ·exact SimI.ru 3 [] (.thenN (.ret (.blockR (.thenR .fn))))
     ·exact SimI.ru 6 [] (.thenN (.ret (.blockR (.thenR .fn))))
    ·exact SimI.ru 11 [] (.thenN (.ret (.blockR (.thenR .fn))))
   ·exact Sim.skip (.blockN (.thenN (.su 1 [] (.ret .fn))))
def F56_e : Bool → PV × List Ob := fun r => (.one (lb r), [])
def F56 (n : Nat) (a0 : Event) : Option Bool :=
 (F57 n a0).bind fun (r1 : Bool) =>
 some (!(r1))
theorem F56_ok (n : Nat) (a0 : Event) : ∀ r, F56 n a0 = some r → D 56 [.agg (Event.cells a0)] [] = some (F56_e r) := by
 refine zan (D := D) (n := n + 8) (nt := 6) (rs := pc56_r) (c := p56c5) (L := [(0, .agg (Event.cells a0))]) (M := []) (k := 0) rfl rfl rfl rfl rfl rfl rfl ?_
 unfold F56
 refine Sim.su 2 [(1, some (.cells (Event.cells a0)))] (.sv 1 [] (.cl 4 true [[]] 57 [3] none (fun r1 => qb r1) [.agg (Event.cells a0)] (F57_ok _ _) (fun r1 => ?_)))
 exact SimI.ru 2 [] (.thenN (.ret .fn))
def F71s0_e (a0 : (List Event)) : Int → PV × List Ob := fun r => (.one (li .i64 r), [])
def zdt (n : Nat) (a0 : (List Event)) : Nat → Int → Option Int
 | 0, _ => none
 | m + 1, i3 =>
  if decide (i3 < ((a0).length : Int)) then
   (ix a0 i3).bind fun (x5 : Event) =>
   (F56 n x5).bind fun (r6 : Bool) =>
   if r6 then
    some i3
   else
    (zdt n a0 m) (IntKind.wrap .i64 (i3 + 1))
  else
   some (-1)
theorem F71s0_l4_ok (n : Nat) (a0 : (List Event)) : ∀ (m : Nat) (i3 : Int), SimL Try.prog D (n + 8) m p71c20 [(0, .one (vw Event.cod a0)), (1, .one (.val (.func (.func 56) #[] #[]))), (7, qj ((a0).length : Int)), (8, qj i3)] [] (zdt n a0 m i3) (QB 0 (QT Try.prog D (n + 8) p71c26 (QF false pc71_r 0 (F71s0_e a0)))) := by
 intro m_l4
 induction m_l4 with
 | zero => intro i3; exact SimL.zero'  rfl
 | succ m_l4 ih_l4 =>
  intro i3
  refine SimL.succ ?_
  unfold zdt
  refine Sim.seq (.rg [(0, .one (vw Event.cod a0)), (1, .one (.val (.func (.func 56) #[] #[]))), (7, qj ((a0).length : Int)), (8, qj i3)] [] (.ru 1 [] (.thenN (.seq (.cd _ ?_ ?_)))))
  ·refine Sim.skip (.thenN (.seq (.block (.su 2 [] (.sv 3 [] (.bn ⟨some 14, .iaddrS 25 12 13, none, []⟩ (fun x5 => [(14, .one (.eptr (Event.cod.enc x5) 0))]) (fun x5 => []) (fun x5 hr => pe (ei (c := Event.cod) (k := .i64) hr)) (fun x5 => ?_)))))))
   refine SimI.rv 1 [] (.bn ⟨some 16, .callv true [[]] 11 [15], none, []⟩ (fun r6 => [(16, qb r6)]) (fun r6 => []) (fun r6 hr => pe (zes (by kernel_rfl) (ARGS := [.agg (Event.cells x5)]) (by kernel_rfl) (zbt (by kernel_rfl) args_nil) (F56_ok _ _ _ hr) (by kernel_rfl))) (fun r6 => ?_))
   refine SimI.dn (.thenN (.cd _ ?_ ?_))
   ·exact Sim.su 2 [] (.ret (.blockR (.thenR (.loopR (.blockR (.thenR .fn))))))
   ·refine Sim.skip (.blockN (.thenN (.region0 (.ru 2 [] (.loopN (.pr [0, 1, 7, 8] [] [] [(0, .one (vw Event.cod a0)), (1, .one (.val (.func (.func 56) #[] #[]))), (7, qj ((a0).length : Int)), (8, qj (iw .i64 (i3 + 1)))] [] ?_))))))
    exact ih_l4 (iw .i64 (i3 + 1))
  ·exact Sim.exit (.thenX (.loopX (.blockX (.thenN (.su 1 [] (.ret .fn))))))
def F71s0 (n : Nat) (a0 : (List Event)) : Option Int :=
 zdt n a0 (n + 8) 0
theorem F71s0_ok (n : Nat) (a0 : (List Event)) : ∀ r, F71s0 n a0 = some r → D 71 [.one (vw Event.cod a0), .one (.val (.func (.func 56) #[] #[]))] [] = some ((F71s0_e a0) r) := by
 refine zan (D := D) (n := n + 8) (nt := 19) (rs := pc71_r) (c := p71c28) (L := [(0, .one (vw Event.cod a0)), (1, .one (.val (.func (.func 56) #[] #[])))]) (M := []) (k := 0) rfl rfl rfl rfl rfl rfl rfl ?_
 unfold F71s0
 refine Sim.su 1 [] (.seq (.su 3 [] (.block (.loop (.pr [0, 1, 7, 8] [] [] [(0, .one (vw Event.cod a0)), (1, .one (.val (.func (.func 56) #[] #[]))), (7, qj ((a0).length : Int)), (8, qj 0)] [] ?_)))))
 exact F71s0_l4_ok n a0 (n + 8) 0
def F55s0_e (a0 : (List Event)) : Bool → PV × List Ob := fun r => (.one (lb r), [])
def F55s0 (n : Nat) (a0 : (List Event)) : Option Bool :=
 (F71s0 n a0).bind fun (r1 : Int) =>
 some (decide ((0 : Int) ≤ r1))
theorem F55s0_ok (n : Nat) (a0 : (List Event)) : ∀ r, F55s0 n a0 = some r → D 55 [.one (vw Event.cod a0), .one (.val (.func (.func 56) #[] #[]))] [] = some ((F55s0_e a0) r) := by
 refine zan (D := D) (n := n + 8) (nt := 9) (rs := pc55_r) (c := p55c5) (L := [(0, .one (vw Event.cod a0)), (1, .one (.val (.func (.func 56) #[] #[])))]) (M := []) (k := 0) rfl rfl rfl rfl rfl rfl rfl ?_
 unfold F55s0
 refine Sim.su 1 [] (.sv 2 [] (.bn ⟨some 7, .gcall false false [] [[(0, 25)], []] 71 [5, 6], none, []⟩ (fun r1 => [(7, qj r1)]) (fun r1 => []) (fun r1 hr => pe (gq (ks := []) (ARGS := [.one (vw Event.cod a0), .one (.val (.func (.func 56) #[] #[]))]) (F71s0_ok _ _ _ hr))) (fun r1 => ?_)))
 exact SimI.ru 2 [] (.thenN (.ret .fn))
def F44_e : (Bool × View) → PV × List Ob := fun r => (.one (lb r.1), [.cells [li .i64 r.2.client, li .i64 r.2.session, li .i64 r.2.n, li .i64 r.2.beat, li .i64 r.2.start, vw Thing.cod r.2.things, .osl 1000001 1 0 (r.2.log_).length, .mp 1000002], .arr 58 Event.cod.sz 1 (r.2.log_).length (zaa Event.cod r.2.log_), .map (zaj Key.cells Event.cod r.2.wait)])
def F44_j1 (n : Nat) (a0 : View) (a1 : Frame) : Option (Bool × View) :=
  if decide (a1.Beat ≤ a0.beat) then
   some (false, a0)
  else
   if decide ((36 : Int) < IntKind.wrap .i64 (a1.Beat - imax a1.Start a0.beat)) then
    some (false, a0)
   else
    if mhas (Key.mk a1.From a1.Beat) a0.wait then
     some (false, a0)
    else
     (F55s0 n a1.Events).bind fun (r2 : Bool) =>
     some (!(r2), a0)
theorem F44_j1_ok (n : Nat) (a0 : View) (a1 : Frame) : Sim Try.prog D (n + 8) p44c16 W61 [(3, some (.cells [lj a1.From, lj a1.Client, lj a1.Session, lj a1.Start, lj a1.Beat, vw Event.cod a1.Events])), (1000000, some (.cells (W25 a0))), (1000001, some (.arr 58 Event.cod.sz 1 (a0.log_).length (zaa Event.cod a0.log_))), (1000002, some (.map (zaj Key.cells Event.cod a0.wait)))] (F44_j1 n a0 a1) (QB 0 (QT Try.prog D (n + 8) p44c34 (QF false pc44_r 3 F44_e))) := by
  unfold F44_j1
  refine Sim.seq (.rg W61 [(3, some (.cells (w0 a1))), (1000000, some (.cells (W25 a0))), (1000001, some (.arr 58 Event.cod.sz 1 (a0.log_).length (zaa Event.cod a0.log_))), (1000002, some (.map (zaj Key.cells Event.cod a0.wait)))] (.rv 8 [] (.sp 73 _ ?_ ?_)))
  ·exact SimI.ru 13 [] (.thenN (.ct (.su 1 [] (.ret (.blockR (.thenR .fn))))))
  ·refine SimI.ru 13 [] (.thenN (.cd _ ?_ ?_))
   ·exact Sim.su 1 [] (.ret (.blockR (.thenR .fn)))
   ·refine Sim.skip (.blockN (.thenN (.seq (.sv 9 [] (.se ⟨some 96, .mlook true 97 [(0, 25)] 90 95, none, [(90, Hint.obj 1000002), (95, .imm)]⟩ [(96, .tup [.one (vw Event.cod (mget (Key.mk a1.From a1.Beat) a0.wait)), qb (mhas (Key.mk a1.From a1.Beat) a0.wait)])] [] (pe (eff_mlook (sz := 25) (c := Event.cod) Key_map (m := 1000002) (l := a0.wait) (key := (Key.mk a1.From a1.Beat)) (by kernel_rfl) (by kernel_rfl) (by kernel_rfl) (by kernel_rfl) true)) (.ru 5 [] (.thenN (.su 1 [] (.cd _ ?_ ?_)))))))))
    ·exact Sim.su 1 [] (.ret (.thenR .fn))
    ·refine Sim.skip (.thenN (.sv 2 [] (.bn ⟨some 102, .gcall false false [] [[(0, 25)], []] 55 [101, Operand.func 56], none, []⟩ (fun r2 => [(102, qb r2)]) (fun r2 => []) (fun r2 hr => pe (gq (ks := []) (ARGS := [.one (vw Event.cod a1.Events), .one (.val (.func (.func 56) #[] #[]))]) (F55s0_ok _ _ _ hr))) (fun r2 => ?_))))
     exact SimI.ru 2 [] (.thenN (.ret .fn))
def F44 (n : Nat) (a0 : View) (a1 : Frame) : Option (Bool × View) :=
 if a1.Client != a0.client then
  some (false, a0)
 else
  if a1.Session != a0.session then
   some (false, a0)
  else
   if decide (a1.From < 0) then
    some (false, a0)
   else
    if decide (a0.n ≤ a1.From) then
     some (false, a0)
    else
     if decide (a1.Start < 0) then
      some (false, a0)
     else
      if decide (a1.Beat < a1.Start) then
       some (false, a0)
      else
       if a0.start != (-1) then
        if a1.Start != a0.start then
         some (false, a0)
        else
         F44_j1 n a0 a1
       else
        F44_j1 n a0 a1
theorem F44_ok (n : Nat) (a0 : View) (a1 : Frame) : ∀ r, F44 n a0 a1 = some r → D 44 [.one (.ptr 1000000 0), .agg [li .i64 a1.From, li .i64 a1.Client, li .i64 a1.Session, li .i64 a1.Start, li .i64 a1.Beat, vw Event.cod a1.Events]] [.cells [li .i64 a0.client, li .i64 a0.session, li .i64 a0.n, li .i64 a0.beat, li .i64 a0.start, vw Thing.cod a0.things, .osl 1000001 0 0 (a0.log_).length, .mp 1000002], .arr 58 Event.cod.sz 0 (a0.log_).length (zaa Event.cod a0.log_), .map (zaj Key.cells Event.cod a0.wait)] = some (F44_e r) := by
 refine zan (D := D) (n := n + 8) (nt := 104) (rs := pc44_r) (c := p44c36) (L := [(0, qp 1000000 0), (1, .agg (w0 a1))]) (M := (W9 a0)) (k := 3) rfl rfl rfl rfl rfl rfl rfl ?_
 unfold F44
 refine Sim.su 2 [(3, some (.cells (w0 a1)))] (.seq (.block (.sv 8 [] (.sp 15 _ ?_ ?_))))
 ·exact SimI.ru 23 [] (.thenN (.ct (.su 1 [] (.ret (.blockR (.thenR .fn))))))
 ·refine SimI.rv 9 [] (.sp 24 _ ?_ ?_)
  ·exact SimI.ru 14 [] (.thenN (.ct (.su 1 [] (.ret (.blockR (.thenR .fn))))))
  ·refine SimI.rv 5 [] (.sp 29 _ ?_ ?_)
   ·exact SimI.ru 9 [] (.thenN (.ct (.su 1 [] (.ret (.blockR (.thenR .fn))))))
   ·refine SimI.ru 9 [] (.thenN (.cd _ ?_ ?_))
    ·exact Sim.su 1 [] (.ret (.blockR (.thenR .fn)))
    ·refine Sim.sv 4 [] (.sp 42 _ ?_ ?_)
     ·exact SimI.ru 23 [] (.thenN (.ct (.su 1 [] (.ret (.blockR (.thenR .fn))))))
     ·refine SimI.rv 7 [] (.sp 49 _ ?_ ?_)
      ·exact SimI.ru 16 [] (.thenN (.ct (.su 1 [] (.ret (.blockR (.thenR .fn))))))
      ·refine SimI.rv 6 [] (.sp 55 _ ?_ ?_)
       ·refine SimI.ru 10 [] (.thenN (.cd _ ?_ ?_))
        ·exact Sim.su 1 [] (.ret (.blockR (.thenR .fn)))
        ·refine Sim.pr [0, 3] W55 [] W61 [(3, some (.cells (w0 a1))), (1000000, some (.cells (W25 a0))), (1000001, some (.arr 58 Event.cod.sz 1 (a0.log_).length (zaa Event.cod a0.log_))), (1000002, some (.map (zaj Key.cells Event.cod a0.wait)))] ?_
         exact F44_j1_ok n a0 a1
       ·refine SimI.ru 10 [] (.thenN (.cf (.pr [0, 3] W55 [] W61 [(3, some (.cells (w0 a1))), (1000000, some (.cells (W25 a0))), (1000001, some (.arr 58 Event.cod.sz 1 (a0.log_).length (zaa Event.cod a0.log_))), (1000002, some (.map (zaj Key.cells Event.cod a0.wait)))] ?_)))
        exact F44_j1_ok n a0 a1
def F92_e : Bool → PV × List Ob := fun r => (.one (lb r), [])
def F92 (n : Nat) (a0 : Int) : Option Bool :=
 some (a0 != a0)
theorem F92_ok (n : Nat) (a0 : Int) : ∀ r, F92 n a0 = some r → D 92 [.one (li .i64 a0)] [] = some (F92_e r) := by
 refine zan (D := D) (n := n + 8) (nt := 6) (rs := pc92_r) (c := p92c5) (L := [(0, qj a0)]) (M := []) (k := 0) rfl rfl rfl rfl rfl rfl rfl ?_
 unfold F92
 exact Sim.su 1 [] (.su 4 [] (.ret .fn))
def F83_e : Int → PV × List Ob := fun r => (.one (li .i64 r), [])
def F83 (n : Nat) (a0 a1 : Int) : Option Int :=
 (F92 n a0).bind fun (r1 : Bool) =>
 (F92 n a1).bind fun (r2 : Bool) =>
 if r1 then
  if r2 then
   some 0
  else
   some (-1)
 else
  if r2 then
   some 1
  else
   if decide (a0 < a1) then
    some (-1)
   else
    if decide (a1 < a0) then
     some 1
    else
     some 0
theorem F83_ok (n : Nat) (a0 a1 : Int) : ∀ r, F83 n a0 a1 = some r → D 83 [.one (li .i64 a0), .one (li .i64 a1)] [] = some (F83_e r) := by
 refine zan (D := D) (n := n + 8) (nt := 20) (rs := pc83_r) (c := p83c49) (L := [(0, qj a0), (1, qj a1)]) (M := []) (k := 0) rfl rfl rfl rfl rfl rfl rfl ?_
 unfold F83
 refine Sim.su 1 [] (.sv 1 [] (.cl 8 true [[]] 92 [7] none (fun r1 => qb r1) [qj a0] (F92_ok _ _) (fun r1 => ?_)))
 refine SimI.ru 1 [] (.thenN (.sv 1 [] (.cl 10 true [[]] 92 [9] none (fun r2 => qb r2) [qj a1] (F92_ok _ _) (fun r2 => ?_))))
 refine SimI.ru 1 [] (.thenN (.seq (.su 1 [] (.cd _ ?_ ?_))))
 ·refine Sim.seq (.su 1 [] (.cd _ ?_ ?_))
  ·exact Sim.su 1 [] (.ret (.thenR (.thenR .fn)))
  ·exact Sim.skip (.thenN (.su 1 [] (.ret (.thenR .fn))))
 ·refine Sim.skip (.thenN (.seq (.su 1 [] (.cd _ ?_ ?_))))
  ·exact Sim.su 1 [] (.ret (.thenR .fn))
  ·refine Sim.skip (.thenN (.seq (.su 3 [] (.cd _ ?_ ?_))))
   ·exact Sim.su 1 [] (.ret (.thenR .fn))
   ·refine Sim.skip (.thenN (.seq (.su 3 [] (.cd _ ?_ ?_))))
    ·exact Sim.su 1 [] (.ret (.thenR .fn))
    ·exact Sim.skip (.thenN (.su 1 [] (.ret .fn)))
def F82_e : Int → PV × List Ob := fun r => (.one (li .i64 r), [])
def F82 (n : Nat) (a0 : Thing) (a1 : Int) : Option Int :=
 (F83 n a0.ID a1).bind fun (r1 : Int) =>
 some r1
theorem F82_ok (n : Nat) (a0 : Thing) (a1 : Int) : ∀ r, F82 n a0 a1 = some r → D 82 [.agg (Thing.cells a0), .one (li .i64 a1)] [] = some (F82_e r) := by
 refine zan (D := D) (n := n + 8) (nt := 9) (rs := pc82_r) (c := p82c5) (L := [(0, .agg (Thing.cells a0)), (1, qj a1)]) (M := []) (k := 0) rfl rfl rfl rfl rfl rfl rfl ?_
 unfold F82
 refine Sim.su 2 [(2, some (.cells (Thing.cells a0)))] (.sv 3 [] (.cl 8 true [[], []] 83 [6, 7] none (fun r1 => qj r1) [qj a0.ID, qj a1] (F83_ok _ _ _) (fun r1 => ?_)))
 exact SimI.ru 1 [] (.thenN (.ret .fn))
def F81s0_e (a0 : (List Thing)) (a1 : Int) : (Int × Bool) → PV × List Ob := fun r => (.tup [.one (li .i64 r.1), .one (lb r.2)], [])
def zds (n : Nat) (a0 : (List Thing)) (a1 : Int) : Nat → Int → Int → Option (Int × Bool)
 | 0, _, _ => none
 | m + 1, i5, i6 =>
  if decide (i5 < i6) then
   (ix a0 (IntKind.wrap .i64 (shrI .u64 (IntKind.wrap .u64 (IntKind.wrap .i64 (i5 + i6))) 1))).bind fun (x8 : Thing) =>
   (F82 n x8 a1).bind fun (r9 : Int) =>
   if decide (r9 < 0) then
    (zds n a0 a1 m) (IntKind.wrap .i64 (IntKind.wrap .i64 (shrI .u64 (IntKind.wrap .u64 (IntKind.wrap .i64 (i5 + i6))) 1) + 1)) i6
   else
    (zds n a0 a1 m) i5 (IntKind.wrap .i64 (shrI .u64 (IntKind.wrap .u64 (IntKind.wrap .i64 (i5 + i6))) 1))
  else
   if decide (i5 < ((a0).length : Int)) then
    (ix a0 i5).bind fun (x10 : Thing) =>
    (F82 n x10 a1).bind fun (r11 : Int) =>
    some (i5, (r11 == 0))
   else
    some (i5, false)
theorem F81s0_l7_ok (n : Nat) (a0 : (List Thing)) (a1 : Int) : ∀ (m : Nat) (i5 i6 : Int), SimL Try.prog D (n + 8) m p81c17 [(0, .one (vw Thing.cod a0)), (1, qj a1), (2, .one (.val (.func (.func 82) #[] #[]))), (8, qj ((a0).length : Int)), (9, qj i5), (10, qj i6)] [] (zds n a0 a1 m i5 i6) (QB 0 (QT Try.prog D (n + 8) p81c22 (QF false pc81_r 0 (F81s0_e a0 a1)))) := by
 intro m_l7
 induction m_l7 with
 | zero => intro i5 i6; exact SimL.zero'  rfl
 | succ m_l7 ih_l7 =>
  intro i5 i6
  refine SimL.succ ?_
  unfold zds
  refine Sim.seq (.seq (.rg [(0, .one (vw Thing.cod a0)), (1, qj a1), (2, .one (.val (.func (.func 82) #[] #[]))), (8, qj ((a0).length : Int)), (9, qj i5), (10, qj i6)] [] (.ru 3 [] (.thenN (.cd _ ?_ ?_)))))
  ·refine Sim.skip (.thenN (.block (.su 7 [] (.sv 3 [] (.bn ⟨some 27, .iaddrS 11 25 26, none, []⟩ (fun x8 => [(27, .one (.eptr (Thing.cod.enc x8) 0))]) (fun x8 => []) (fun x8 hr => pe (ei (c := Thing.cod) (k := .i64) hr)) (fun x8 => ?_))))))
   refine SimI.rv 2 [] (.bn ⟨some 30, .callv true [[], []] 24 [28, 29], none, []⟩ (fun r9 => [(30, qj r9)]) (fun r9 => []) (fun r9 hr => pe (zes (by kernel_rfl) (ARGS := [.agg (Thing.cells x8), qj a1]) (by kernel_rfl) (zbt (by kernel_rfl) (zbt (by kernel_rfl) args_nil)) (F82_ok _ _ _ _ hr) (by kernel_rfl))) (fun r9 => ?_))
   refine SimI.ru 1 [] (.thenN (.cd _ ?_ ?_))
   ·refine Sim.region0 (.ru 3 [] (.blockN (.loopN (.pr [0, 1, 2, 8, 9, 10] [] [] [(0, .one (vw Thing.cod a0)), (1, qj a1), (2, .one (.val (.func (.func 82) #[] #[]))), (8, qj ((a0).length : Int)), (9, qj (iw .i64 (iw .i64 (shrI .u64 (iw .u64 (iw .i64 (i5 + i6))) 1) + 1))), (10, qj i6)] [] ?_))))
    exact ih_l7 (iw .i64 (iw .i64 (shrI .u64 (iw .u64 (iw .i64 (i5 + i6))) 1) + 1)) i6
   ·refine Sim.region0 (.ru 2 [] (.blockN (.loopN (.pr [0, 1, 2, 8, 9, 10] [] [] [(0, .one (vw Thing.cod a0)), (1, qj a1), (2, .one (.val (.func (.func 82) #[] #[]))), (8, qj ((a0).length : Int)), (9, qj i5), (10, qj (iw .i64 (shrI .u64 (iw .u64 (iw .i64 (i5 + i6))) 1)))] [] ?_))))
    exact ih_l7 i5 (iw .i64 (shrI .u64 (iw .u64 (iw .i64 (i5 + i6))) 1))
  ·refine Sim.exit (.thenX (.loopX (.blockX (.thenN (.sv 5 [] (.sp 39 _ ?_ ?_))))))
   ·refine SimI.rv 3 [] (.bn ⟨some 43, .iaddrS 11 41 42, some (39, true), []⟩ (fun x10 => [(43, .one (.eptr (Thing.cod.enc x10) 0))]) (fun x10 => []) (fun x10 hr => pe (ei (c := Thing.cod) (k := .i64) hr)) (fun x10 => ?_))
    refine SimI.rv 2 [] (.bn ⟨some 46, .callv true [[], []] 40 [44, 45], some (39, true), []⟩ (fun r11 => [(46, qj r11)]) (fun r11 => []) (fun r11 hr => pe (zes (by kernel_rfl) (ARGS := [.agg (Thing.cells x10), qj a1]) (by kernel_rfl) (zbt (by kernel_rfl) (zbt (by kernel_rfl) args_nil)) (F82_ok _ _ _ _ hr) (by kernel_rfl))) (fun r11 => ?_))
    exact SimI.ru 4 [] (.thenN (.ret .fn))
   ·exact SimI.ru 11 [] (.thenN (.ret .fn))
def F81s0 (n : Nat) (a0 : (List Thing)) (a1 : Int) : Option (Int × Bool) :=
 zds n a0 a1 (n + 8) 0 ((a0).length : Int)
theorem F81s0_ok (n : Nat) (a0 : (List Thing)) (a1 : Int) : ∀ r, F81s0 n a0 a1 = some r → D 81 [.one (vw Thing.cod a0), .one (li .i64 a1), .one (.val (.func (.func 82) #[] #[]))] [] = some ((F81s0_e a0 a1) r) := by
 refine zan (D := D) (n := n + 8) (nt := 49) (rs := pc81_r) (c := p81c26) (L := [(0, .one (vw Thing.cod a0)), (1, qj a1), (2, .one (.val (.func (.func 82) #[] #[])))]) (M := []) (k := 0) rfl rfl rfl rfl rfl rfl rfl ?_
 unfold F81s0
 refine Sim.su 2 [] (.su 3 [] (.su 3 [] (.seq (.block (.loop (.pr [0, 1, 2, 8, 9, 10] [] [] [(0, .one (vw Thing.cod a0)), (1, qj a1), (2, .one (.val (.func (.func 82) #[] #[]))), (8, qj ((a0).length : Int)), (9, qj 0), (10, qj ((a0).length : Int))] [] ?_))))))
 exact F81s0_l7_ok n a0 a1 (n + 8) 0 ((a0).length : Int)
def F85_e : Thing → PV × List Ob := fun r => (.agg (Thing.cells r), [])
def F85_u14 (n : Nat) (g13 : Thing) : Option Thing :=
  some g13
theorem F85_u14_ok (n : Nat) (a1 : Delta) (g13 : Thing) : SimL Try.prog D (n + 8) (n + 4) p85c23 [(2, qp 2 0), (3, qp 3 0), (4, qp 4 0), (15, .agg (A4_Field.cells a1.F)), (16, qj 4)] (W31 g13 a1) (F85_u14 n g13) (QB 0 (QT Try.prog D (n + 8) p85c29 (QF false pc85_r 0 F85_e))) := by
  unfold F85_u14
  exact SimL.succ (.seq (.rg (w18 a1) (W31 g13 a1) (.ru 1 [] (.thenN (.seq (.cf (.exit (.thenX (.loopX (.blockX (.thenN (.su 2 [(4, some (.cells (Thing.cells g13)))] (.ret .fn)))))))))))))
def F85_u11 (n : Nat) (a0 : Thing) (a1 : Delta) (g10 : Thing) : Option Thing :=
  (F80 n a1.Mask 3).bind fun (r12 : Bool) =>
  if r12 then
   F85_u14 n (Thing.mk g10.ID g10.At (A4.mk g10.F.a0 g10.F.a1 g10.F.a2 a1.F.a3))
  else
   F85_u14 n g10
theorem F85_u11_ok (n : Nat) (a0 : Thing) (a1 : Delta) (g10 : Thing) : SimL Try.prog D (n + 8) (n + 5) p85c23 [(2, qp 2 0), (3, qp 3 0), (4, qp 4 0), (15, .agg (A4_Field.cells a1.F)), (16, qj 3)] (W31 g10 a1) (F85_u11 n a0 a1 g10) (QB 0 (QT Try.prog D (n + 8) p85c29 (QF false pc85_r 0 F85_e))) := by
  unfold F85_u11
  refine SimL.succ (.seq (.rg (w19 a1) (W31 g10 a1) (.ru 1 [] (.thenN (.seq (.ct (.skip (.thenN (.seq (.block (.su 5 [(6, some (.cells (W77 a1))), (6, some (.cells [lj 0, ls be]))] (.sv 3 [] (.cl 23 true [[], []] 80 [21, 22] none (fun r12 => qb r12) [.one (li .u8 a1.Mask), qj 3] (F80_ok _ _ _) (fun r12 => ?_))))))))))))))
  refine SimI.dn (.thenN (.cd _ ?_ ?_))
  ·refine Sim.region0 (.ru 5 [(2, some (.cells (W34 g10 a1)))] (.blockN (.thenN (.region0 (.ru 2 [] (.loopN (.pr [2, 3, 4, 15, 16] [2, 3, 4, 6] [] (w18 a1) [(2, some (.cells (W34 g10 a1))), (3, some (.cells (Delta.cells a1))), (4, some (.cells W2))] ?_)))))))
   exact F85_u14_ok n a1 (Thing.mk g10.ID g10.At (A4.mk g10.F.a0 g10.F.a1 g10.F.a2 a1.F.a3))
  ·refine Sim.skip (.blockN (.thenN (.region0 (.ru 2 [] (.loopN (.pr [2, 3, 4, 15, 16] [2, 3, 4, 6] [] (w18 a1) (W31 g10 a1) ?_))))))
   exact F85_u14_ok n a1 g10
def F85_u8 (n : Nat) (a0 : Thing) (a1 : Delta) (g7 : Thing) : Option Thing :=
  (F80 n a1.Mask 2).bind fun (r9 : Bool) =>
  if r9 then
   F85_u11 n a0 a1 (Thing.mk g7.ID g7.At (A4.mk g7.F.a0 g7.F.a1 a1.F.a2 g7.F.a3))
  else
   F85_u11 n a0 a1 g7
theorem F85_u8_ok (n : Nat) (a0 : Thing) (a1 : Delta) (g7 : Thing) : SimL Try.prog D (n + 8) (n + 6) p85c23 [(2, qp 2 0), (3, qp 3 0), (4, qp 4 0), (15, .agg (A4_Field.cells a1.F)), (16, qj 2)] (W31 g7 a1) (F85_u8 n a0 a1 g7) (QB 0 (QT Try.prog D (n + 8) p85c29 (QF false pc85_r 0 F85_e))) := by
  unfold F85_u8
  refine SimL.succ (.seq (.rg (w20 a1) (W31 g7 a1) (.ru 1 [] (.thenN (.seq (.ct (.skip (.thenN (.seq (.block (.su 5 [(6, some (.cells (W78 a1))), (6, some (.cells [lj 0, ls be]))] (.sv 3 [] (.cl 23 true [[], []] 80 [21, 22] none (fun r9 => qb r9) [.one (li .u8 a1.Mask), qj 2] (F80_ok _ _ _) (fun r9 => ?_))))))))))))))
  refine SimI.dn (.thenN (.cd _ ?_ ?_))
  ·refine Sim.region0 (.ru 5 [(2, some (.cells (W35 g7 a1)))] (.blockN (.thenN (.region0 (.ru 2 [] (.loopN (.pr [2, 3, 4, 15, 16] [2, 3, 4, 6] [] (w19 a1) [(2, some (.cells (W35 g7 a1))), (3, some (.cells (Delta.cells a1))), (4, some (.cells W2))] ?_)))))))
   exact F85_u11_ok n a0 a1 (Thing.mk g7.ID g7.At (A4.mk g7.F.a0 g7.F.a1 a1.F.a2 g7.F.a3))
  ·refine Sim.skip (.blockN (.thenN (.region0 (.ru 2 [] (.loopN (.pr [2, 3, 4, 15, 16] [2, 3, 4, 6] [] (w19 a1) (W31 g7 a1) ?_))))))
   exact F85_u11_ok n a0 a1 g7
def F85_u5 (n : Nat) (a0 : Thing) (a1 : Delta) (g4 : Thing) : Option Thing :=
  (F80 n a1.Mask 1).bind fun (r6 : Bool) =>
  if r6 then
   F85_u8 n a0 a1 (Thing.mk g4.ID g4.At (A4.mk g4.F.a0 a1.F.a1 g4.F.a2 g4.F.a3))
  else
   F85_u8 n a0 a1 g4
theorem F85_u5_ok (n : Nat) (a0 : Thing) (a1 : Delta) (g4 : Thing) : SimL Try.prog D (n + 8) (n + 7) p85c23 [(2, qp 2 0), (3, qp 3 0), (4, qp 4 0), (15, .agg (A4_Field.cells a1.F)), (16, qj 1)] (W31 g4 a1) (F85_u5 n a0 a1 g4) (QB 0 (QT Try.prog D (n + 8) p85c29 (QF false pc85_r 0 F85_e))) := by
  unfold F85_u5
  refine SimL.succ (.seq (.rg (w21 a1) (W31 g4 a1) (.ru 1 [] (.thenN (.seq (.ct (.skip (.thenN (.seq (.block (.su 5 [(6, some (.cells (W79 a1))), (6, some (.cells [lj 0, ls be]))] (.sv 3 [] (.cl 23 true [[], []] 80 [21, 22] none (fun r6 => qb r6) [.one (li .u8 a1.Mask), qj 1] (F80_ok _ _ _) (fun r6 => ?_))))))))))))))
  refine SimI.dn (.thenN (.cd _ ?_ ?_))
  ·refine Sim.region0 (.ru 5 [(2, some (.cells (W36 g4 a1)))] (.blockN (.thenN (.region0 (.ru 2 [] (.loopN (.pr [2, 3, 4, 15, 16] [2, 3, 4, 6] [] (w20 a1) [(2, some (.cells (W36 g4 a1))), (3, some (.cells (Delta.cells a1))), (4, some (.cells W2))] ?_)))))))
   exact F85_u8_ok n a0 a1 (Thing.mk g4.ID g4.At (A4.mk g4.F.a0 a1.F.a1 g4.F.a2 g4.F.a3))
  ·refine Sim.skip (.blockN (.thenN (.region0 (.ru 2 [] (.loopN (.pr [2, 3, 4, 15, 16] [2, 3, 4, 6] [] (w20 a1) (W31 g4 a1) ?_))))))
   exact F85_u8_ok n a0 a1 g4
def F85_j2 (n : Nat) (a0 : Thing) (a1 : Delta) (g1 : Thing) : Option Thing :=
  (F80 n a1.Mask 0).bind fun (r3 : Bool) =>
  if r3 then
   F85_u5 n a0 a1 (Thing.mk g1.ID g1.At (A4.mk a1.F.a0 g1.F.a1 g1.F.a2 g1.F.a3))
  else
   F85_u5 n a0 a1 g1
theorem F85_j2_ok (n : Nat) (a0 : Thing) (a1 : Delta) (g1 : Thing) : Sim Try.prog D (n + 8) p85c30 [(2, qp 2 0), (3, qp 3 0), (4, qp 4 0)] (W31 g1 a1) (F85_j2 n a0 a1 g1) (QF false pc85_r 0 F85_e) := by
  unfold F85_j2
  refine Sim.seq (.seq (.rs (.ru 3 [] (.thenN (.block (.loop (.succ (.seq (.rg [(2, qp 2 0), (3, qp 3 0), (4, qp 4 0), (15, .agg (A4_Field.cells a1.F)), (16, qj 0)] (W31 g1 a1) (.ru 1 [] (.thenN (.seq (.ct (.skip (.thenN (.seq (.block (.su 5 [(6, some (.cells (W80 a1))), (6, some (.cells [lj 0, ls be]))] (.sv 3 [] (.cl 23 true [[], []] 80 [21, 22] none (fun r3 => qb r3) [.one (li .u8 a1.Mask), qj 0] (F80_ok _ _ _) (fun r3 => ?_)))))))))))))))))))))
  refine SimI.dn (.thenN (.cd _ ?_ ?_))
  ·refine Sim.region0 (.ru 5 [(2, some (.cells (W37 g1 a1)))] (.blockN (.thenN (.region0 (.ru 2 [] (.loopN (.pr [2, 3, 4, 15, 16] [2, 3, 4, 6] [] (w21 a1) [(2, some (.cells (W37 g1 a1))), (3, some (.cells (Delta.cells a1))), (4, some (.cells W2))] ?_)))))))
   exact F85_u5_ok n a0 a1 (Thing.mk g1.ID g1.At (A4.mk a1.F.a0 g1.F.a1 g1.F.a2 g1.F.a3))
  ·refine Sim.skip (.blockN (.thenN (.region0 (.ru 2 [] (.loopN (.pr [2, 3, 4, 15, 16] [2, 3, 4, 6] [] (w21 a1) (W31 g1 a1) ?_))))))
   exact F85_u5_ok n a0 a1 g1
def F85 (n : Nat) (a0 : Thing) (a1 : Delta) : Option Thing :=
 if (zav .and .u8 a1.Mask 1) != 0 then
  F85_j2 n a0 a1 (Thing.mk a0.ID a1.At a0.F)
 else
  F85_j2 n a0 a1 a0
theorem F85_ok (n : Nat) (a0 : Thing) (a1 : Delta) : ∀ r, F85 n a0 a1 = some r → D 85 [.agg (Thing.cells a0), .agg (Delta.cells a1)] [] = some (F85_e r) := by
 refine zan (D := D) (n := n + 8) (nt := 30) (rs := pc85_r) (c := p85c32) (L := [(0, .agg (Thing.cells a0)), (1, .agg (Delta.cells a1))]) (M := []) (k := 0) rfl rfl rfl rfl rfl rfl rfl ?_
 unfold F85
 refine Sim.su 3 [(4, some (.cells W2)), (3, some (.cells (Delta.cells a1))), (2, some (.cells (Thing.cells a0)))] (.seq (.su 4 [] (.cd _ ?_ ?_)))
 ·refine Sim.region0 (.ru 4 [(2, some (.cells (W38 a0 a1)))] (.thenN (.pr [2, 3, 4] [2, 3, 4] [] [(2, qp 2 0), (3, qp 3 0), (4, qp 4 0)] [(2, some (.cells (W38 a0 a1))), (3, some (.cells (Delta.cells a1))), (4, some (.cells W2))] ?_)))
  exact F85_j2_ok n a0 a1 (Thing.mk a0.ID a1.At a0.F)
 ·refine Sim.skip (.thenN (.pr [2, 3, 4] [2, 3, 4] [] [(2, qp 2 0), (3, qp 3 0), (4, qp 4 0)] (W31 a0 a1) ?_))
  exact F85_j2_ok n a0 a1 a0
def F74_e : ((List Thing) × Bool) → PV × List Ob := fun r => (.tup [.one (vw Thing.cod r.1), .one (lb r.2)], [])
def F74 (n : Nat) (a0 : (List Thing)) (a1 : Event) : Option ((List Thing) × Bool) :=
 (F81s0 n a0 a1.ID).bind fun (r1 : (Int × Bool)) =>
 (F57 n a1).bind fun (r2 : Bool) =>
 if !(r2) then
  (zca a0).bind fun (l3 : (List Thing)) =>
  some (l3, false)
 else
  if r1.2 == (a1.Kind == 1) then
   (zca a0).bind fun (l4 : (List Thing)) =>
   some (l4, false)
  else
   (zca a0).bind fun (l5 : (List Thing)) =>
   if a1.Kind == 1 then
    (insL l5 r1.1 a1.Thing).bind fun (l6 : (List Thing)) =>
    some (l6, true)
   else
    if a1.Kind == 2 then
     (ix l5 r1.1).bind fun (x7 : Thing) =>
     (F85 n x7 a1.Delta).bind fun (r8 : Thing) =>
     (ix l5 r1.1).bind fun (x9 : Thing) =>
     some (((l5).set ((r1.1).toNat) r8), true)
    else
     (delL l5 r1.1 (IntKind.wrap .i64 (r1.1 + 1))).bind fun (l10 : (List Thing)) =>
     some (l10, true)
theorem F74_ok (n : Nat) (a0 : (List Thing)) (a1 : Event) : ∀ r, F74 n a0 a1 = some r → D 74 [.one (vw Thing.cod a0), .agg (Event.cells a1)] [] = some (F74_e r) := by
 refine zan (D := D) (n := n + 8) (nt := 58) (rs := pc74_r) (c := p74c30) (L := [(0, .one (vw Thing.cod a0)), (1, .agg (Event.cells a1))]) (M := []) (k := 0) rfl rfl rfl rfl rfl rfl rfl ?_
 unfold F74
 refine Sim.su 3 [(3, some (.cells (Event.cells a1)))] (.sv 3 [] (.bn ⟨some 13, .gcall false false [] [[(0, 11)], [], []] 81 [10, 12, Operand.func 82], none, []⟩ (fun r1 => [(13, .tup [qj r1.1, qb r1.2])]) (fun r1 => []) (fun r1 hr => pe (gq (ks := []) (ARGS := [.one (vw Thing.cod a0), qj a1.ID, .one (.val (.func (.func 82) #[] #[]))]) (F81s0_ok _ _ _ _ hr))) (fun r1 => ?_)))
 refine SimI.ru 5 [] (.thenN (.seq (.sv 1 [] (.cl 17 true [[]] 57 [16] none (fun r2 => qb r2) [.agg (Event.cells a1)] (F57_ok _ _) (fun r2 => ?_)))))
 refine SimI.rv 2 [] (.sp 19 _ ?_ ?_)
 ·refine SimI.ru 6 [] (.thenN (.ct (.sv 1 [] (.bn ⟨some 27, .gcall false false W33 [[(0, 11)]] 50 [26], none, []⟩ (fun l3 => [(27, .one (.osl 300000 0 0 (l3).length))]) (fun l3 => (W49 l3)) (fun l3 hr => pe (zar (ks := []) (rks := []) (new := [300000]) (ARGS := [.one (vw Thing.cod a0)]) (args1 := [.one (vw Thing.cod a0)]) (args2 := [.one (vw Thing.cod a0)]) (os := []) (os' := [.arr 54 Thing.cod.sz 0 (l3).length (zaa Thing.cod l3)]) (os1 := [.arr 54 Thing.cod.sz 0 (l3).length (zaa Thing.cod l3)]) (res := .one (.osl 1000000 0 0 (l3).length)) (res1 := .one (.osl 1000000 0 0 (l3).length)) (r := .one (.osl 300000 0 0 (l3).length)) (N := (W49 l3)) (by kernel_rfl) (zax (zak (by kernel_rfl) (zas))) (by kernel_rfl) (by kernel_rfl) (by kernel_rfl) (by kernel_rfl) (D_b50 (l := a0) (r := l3) hr) (by kernel_rfl) (by kernel_rfl) (by kernel_rfl) (by kernel_rfl) (by kernel_rfl) (by kernel_rfl) (by kernel_rfl))) (fun l3 => ?_)))))
  exact SimI.ru 2 [] (.thenN (.ret (.thenR (.fin (out_of (os := []) (zaq (zaw (c := Thing.cod) (k := 300000) (g := 0) (el := 54) (l := l3) (by kernel_rfl) (by kernel_rfl) (by kernel_rfl)) (zaq (v := qb false) (by kernel_rfl) (zbe))) (by kernel_rfl) rfl (by kernel_rfl))))))
 ·refine SimI.ru 6 [] (.thenN (.cd _ ?_ ?_))
  ·refine Sim.sv 1 [] (.bn ⟨some 27, .gcall false false W33 [[(0, 11)]] 50 [26], none, []⟩ (fun l4 => [(27, .one (.osl 300000 0 0 (l4).length))]) (fun l4 => (W49 l4)) (fun l4 hr => pe (zar (ks := []) (rks := []) (new := [300000]) (ARGS := [.one (vw Thing.cod a0)]) (args1 := [.one (vw Thing.cod a0)]) (args2 := [.one (vw Thing.cod a0)]) (os := []) (os' := [.arr 54 Thing.cod.sz 0 (l4).length (zaa Thing.cod l4)]) (os1 := [.arr 54 Thing.cod.sz 0 (l4).length (zaa Thing.cod l4)]) (res := .one (.osl 1000000 0 0 (l4).length)) (res1 := .one (.osl 1000000 0 0 (l4).length)) (r := .one (.osl 300000 0 0 (l4).length)) (N := (W49 l4)) (by kernel_rfl) (zax (zak (by kernel_rfl) (zas))) (by kernel_rfl) (by kernel_rfl) (by kernel_rfl) (by kernel_rfl) (D_b50 (l := a0) (r := l4) hr) (by kernel_rfl) (by kernel_rfl) (by kernel_rfl) (by kernel_rfl) (by kernel_rfl) (by kernel_rfl) (by kernel_rfl))) (fun l4 => ?_))
   exact SimI.ru 2 [] (.thenN (.ret (.thenR (.fin (out_of (os := []) (zaq (zaw (c := Thing.cod) (k := 300000) (g := 0) (el := 54) (l := l4) (by kernel_rfl) (by kernel_rfl) (by kernel_rfl)) (zaq (v := qb false) (by kernel_rfl) (zbe))) (by kernel_rfl) rfl (by kernel_rfl))))))
  ·refine Sim.skip (.thenN (.sv 1 [] (.bn ⟨some 29, .gcall false false W33 [[(0, 11)]] 50 [28], none, []⟩ (fun l5 => [(29, .one (.osl 300000 0 0 (l5).length))]) (fun l5 => (W49 l5)) (fun l5 hr => pe (zar (ks := []) (rks := []) (new := [300000]) (ARGS := [.one (vw Thing.cod a0)]) (args1 := [.one (vw Thing.cod a0)]) (args2 := [.one (vw Thing.cod a0)]) (os := []) (os' := [.arr 54 Thing.cod.sz 0 (l5).length (zaa Thing.cod l5)]) (os1 := [.arr 54 Thing.cod.sz 0 (l5).length (zaa Thing.cod l5)]) (res := .one (.osl 1000000 0 0 (l5).length)) (res1 := .one (.osl 1000000 0 0 (l5).length)) (r := .one (.osl 300000 0 0 (l5).length)) (N := (W49 l5)) (by kernel_rfl) (zax (zak (by kernel_rfl) (zas))) (by kernel_rfl) (by kernel_rfl) (by kernel_rfl) (by kernel_rfl) (D_b50 (l := a0) (r := l5) hr) (by kernel_rfl) (by kernel_rfl) (by kernel_rfl) (by kernel_rfl) (by kernel_rfl) (by kernel_rfl) (by kernel_rfl))) (fun l5 => ?_))))
   refine SimI.ru 1 [] (.thenN (.seq (.su 2 [] (.block (.su 2 [] (.cd _ ?_ ?_))))))
   ·refine Sim.region0 (.rv 5 [(43, some (.cells (Thing.cells a1.Thing)))] (.bn ⟨some 44, .gcall true false k8' [[(0, 11)], [], [(0, 11)]] 84 [39, 40, 43], none, []⟩ (fun l6 => [(44, .one (.osl 300000 (0 + 1) 0 (l6).length))]) (fun l6 => [(300000, some (.arr 54 Thing.cod.sz (0 + 1) (l6).length (zaa Thing.cod l6))), (43, some (.cells (Thing.cells a1.Thing)))]) (fun l6 hr => pe (gq (ks := [300000, 43]) (ARGS := [.one (.osl 300000 0 0 (l5).length), qj r1.1, .one (.csl 43 11 0 1)]) (D_b84 (l := l5) (i := r1.1) (a := a1.Thing) (r := l6) hr))) (fun l6 => ?_)))
    exact SimI.ru 1 [] (.blockN (.thenN (.su 3 [] (.ret (.fin (out_of (os := []) (zaq (zaw (c := Thing.cod) (k := 300000) (g := (0 + 1)) (el := 54) (l := l6) (by kernel_rfl) (by kernel_rfl) (by kernel_rfl)) (zaq (v := qb true) (by kernel_rfl) (zbe))) (by kernel_rfl) rfl (by kernel_rfl)))))))
   ·refine Sim.su 2 [] (.cd _ ?_ ?_)
    ·refine Sim.region0 (.rv 4 [] (.bindh (og := ix l5 r1.1) ⟨some 51, .iaddrS 11 49 50, none, [(49, Hint.obj 300000), (50, .imm)]⟩ (fun x7 => [(51, .one (.aptr 300000 0 ((r1.1).toNat) 0))]) (fun x7 => []) (by kernel_rfl) (fun x7 hr => pe (zer (c := Thing.cod) (l := l5) (g := 0) (el := 54) (k := .i64) (n := r1.1) (by kernel_rfl) (by kernel_rfl) (by kernel_rfl) (by kernel_rfl) hr)) (fun x7 hx7 => ?_)))
     refine SimI.se ⟨some 52, .load true 11 51, none, [(51, Hint.obj 300000)]⟩ [(52, .agg (Thing.cells x7))] [] (pe (zef (c := Thing.cod) (a := x7) (l := l5) (key := 300000) (g := 0) (el := 54) (off := 0) (i := (r1.1).toNat) (by kernel_rfl) (by kernel_rfl) (zec hx7).2.2.2 (by kernel_rfl))) (.rv 2 [] (.cm 55 false [[], []] 85 [52, 54] none [(52, .imm), (54, .imm)] (F85_ok _ _ _) (fun r8 => ?_)))
     refine SimI.bindh (og := ix l5 r1.1) ⟨some 56, .iaddrS 11 47 48, none, [(47, Hint.obj 300000), (48, .imm)]⟩ (fun x9 => [(56, .one (.aptr 300000 0 ((r1.1).toNat) 0))]) (fun x9 => []) (by kernel_rfl) (fun x9 hr => pe (zer (c := Thing.cod) (l := l5) (g := 0) (el := 54) (k := .i64) (n := r1.1) (by kernel_rfl) (by kernel_rfl) (by kernel_rfl) (by kernel_rfl) hr)) (fun x9 hx9 => ?_)
     exact SimI.se ⟨none, .store 11 56 55, none, [(56, Hint.obj 300000), (55, .imm)]⟩ [] [(300000, some (.arr 54 Thing.cod.sz 0 (((l5).set ((r1.1).toNat) r8)).length (zaa Thing.cod ((l5).set ((r1.1).toNat) r8))))] (pOp_eff_ (by kernel_rfl) (by kernel_rfl) (eff_storeO (c := Thing.cod) (key := 300000) (g := 0) (el := 54) (l := l5) (i := (r1.1).toNat) (b := r8) (by kernel_rfl) (by kernel_rfl) (by kernel_rfl) (zec hx9).2.2.1 (fun _ => rfl) rfl (by kernel_rfl))) (.slot 8 (.one (.osl 300000 0 0 (((l5).set ((r1.1).toNat) r8)).length)) (Eq.trans (b := PV.one (.osl 300000 0 0 (l5).length)) (by kernel_rfl) (congrArg (fun z => PV.one (Lf.osl 300000 0 0 z)) List.length_set.symm)) (.dn (.blockN (.thenN (.su 3 [] (.ret (.fin (out_of (os := []) (zaq (zaw (c := Thing.cod) (k := 300000) (g := 0) (el := 54) (l := ((l5).set ((r1.1).toNat) r8)) (by kernel_rfl) (by kernel_rfl) (by kernel_rfl)) (zaq (v := qb true) (by kernel_rfl) (zbe))) (by kernel_rfl) rfl (by kernel_rfl)))))))))
    ·refine Sim.region0 (.rv 4 [] (.bn ⟨some 36, .gcall true false W33 [[(0, 11)], [], []] 86 [32, 33, 35], none, []⟩ (fun l10 => [(36, .one (.osl 300000 (0 + 1) 0 (l10).length))]) (fun l10 => [(300000, some (.arr 54 Thing.cod.sz (0 + 1) (l10).length (zaa Thing.cod l10)))]) (fun l10 hr => pe (gq (ks := [300000]) (ARGS := [.one (.osl 300000 0 0 (l5).length), qj r1.1, qj (iw .i64 (r1.1 + 1))]) (D_b86 (l := l5) (i := r1.1) (j := IntKind.wrap .i64 (r1.1 + 1)) (r := l10) hr))) (fun l10 => ?_)))
     exact SimI.ru 1 [] (.blockN (.thenN (.su 3 [] (.ret (.fin (out_of (os := []) (zaq (zaw (c := Thing.cod) (k := 300000) (g := (0 + 1)) (el := 54) (l := l10) (by kernel_rfl) (by kernel_rfl) (by kernel_rfl)) (zaq (v := qb true) (by kernel_rfl) (zbe))) (by kernel_rfl) rfl (by kernel_rfl)))))))
def F58_e : ((List Thing) × Bool) → PV × List Ob := fun r => (.tup [.one (vw Thing.cod r.1), .one (lb r.2)], [])
def F58_j16 (n : Nat) (a0 l14 : (List Thing)) (b15 : Bool) : Option ((List Thing) × Bool) :=
  if !(b15) then
   (zca a0).bind fun (l17 : (List Thing)) =>
   some (l17, false)
  else
   some (l14, true)
theorem F58_j16_ok (n : Nat) (a0 l14 : (List Thing)) (b15 : Bool) : Sim Try.prog D (n + 8) p58c36 [(0, .one (vw Thing.cod a0)), (6, .one (vw Thing.cod l14)), (7, qb b15)] [] (F58_j16 n a0 l14 b15) (QF false pc58_r 0 F58_e) := by
  unfold F58_j16
  refine Sim.seq (.seq (.rs (.ru 2 [] (.thenN (.cd _ ?_ ?_)))))
  ·refine Sim.sv 1 [] (.bn ⟨some 30, .gcall false true [399990, 399991] [[(0, 11)]] 50 [29], none, []⟩ (fun l17 => [(30, .one (vw Thing.cod l17))]) (fun l17 => []) (fun l17 hr => pe (zar (ks := []) (rks := []) (new := [399990]) (ARGS := [.one (vw Thing.cod a0)]) (args1 := [.one (vw Thing.cod a0)]) (args2 := [.one (vw Thing.cod a0)]) (os := []) (os' := [.arr 54 Thing.cod.sz 0 (l17).length (zaa Thing.cod l17)]) (os1 := [.arr 54 Thing.cod.sz 0 (l17).length (zaa Thing.cod l17)]) (res := .one (.osl 1000000 0 0 (l17).length)) (res1 := .one (vw Thing.cod l17)) (r := .one (vw Thing.cod l17)) (N := []) (by kernel_rfl) (zax (zak (by kernel_rfl) (zas))) (by kernel_rfl) (by kernel_rfl) (by kernel_rfl) (by kernel_rfl) (D_b50 (l := a0) (r := l17) hr) (by kernel_rfl) (by kernel_rfl) (by kernel_rfl) (frz_new (c := Thing.cod) 54 l17) (by kernel_rfl) (by kernel_rfl) (by kernel_rfl))) (fun l17 => ?_))
   exact SimI.ru 2 [] (.thenN (.ret (.thenR .fn)))
  ·exact Sim.skip (.thenN (.su 3 [] (.ret .fn)))
def F58_l11 (n : Nat) (a0 : (List Thing)) (a1 : (List Event)) : Nat → (List Thing) → Bool → Int → Option ((List Thing) × Bool)
 | 0, _, _, _ => none
 | m + 1, l8, b9, i10 =>
  if decide (i10 < ((a1).length : Int)) then
   (ix a1 i10).bind fun (x12 : Event) =>
   (F74 n l8 x12).bind fun (r13 : ((List Thing) × Bool)) =>
   if !(r13.2) then
    F58_j16 n a0 r13.1 r13.2
   else
    (F58_l11 n a0 a1 m) r13.1 r13.2 (IntKind.wrap .i64 (i10 + 1))
  else
   F58_j16 n a0 l8 b9
theorem F58_l11_ok (n : Nat) (a0 : (List Thing)) (a1 : (List Event)) : ∀ (m : Nat) (l8 : (List Thing)) (b9 : Bool) (i10 : Int), SimL Try.prog D (n + 8) m p58c22 [(0, .one (vw Thing.cod a0)), (6, .one (vw Thing.cod l8)), (7, qb b9), (12, .one (vw Event.cod a1)), (13, qj ((a1).length : Int)), (14, qj i10)] [] (F58_l11 n a0 a1 m l8 b9 i10) (QB 0 (QT Try.prog D (n + 8) p58c36 (QF false pc58_r 0 F58_e))) := by
 intro m_l11
 induction m_l11 with
 | zero => intro l8 b9 i10; exact SimL.zero'  rfl
 | succ m_l11 ih_l11 =>
  intro l8 b9 i10
  refine SimL.succ ?_
  unfold F58_l11
  refine Sim.seq (.rg [(0, .one (vw Thing.cod a0)), (6, .one (vw Thing.cod l8)), (7, qb b9), (12, .one (vw Event.cod a1)), (13, qj ((a1).length : Int)), (14, qj i10)] [] (.ru 1 [] (.thenN (.seq (.cd _ ?_ ?_)))))
  ·refine Sim.skip (.thenN (.seq (.block (.seq (.region0 (.bn ⟨some 16, .iaddrS 25 12 14, none, []⟩ (fun x12 => [(16, .one (.eptr (Event.cod.enc x12) 0))]) (fun x12 => []) (fun x12 hr => pe (ei (c := Event.cod) (k := .i64) hr)) (fun x12 => ?_)))))))
   refine SimI.ru 3 [(9, some (.cells (Event.cells x12))), (9, some (.cells [lj 0, lj 0, lj 0, lj 0, lj 0, lj 0, ls be, lj 0, ls be, lj 0, ls be, lj 0, ls be, lj 0, li .u8 0, lj 0, lj 0, lj 0, ls be, lj 0, ls be, lj 0, ls be, lj 0, ls be]))] (.thenN (.sv 2 [] (.cl 21 true [[(0, 11)], []] 74 [19, 20] none (fun r13 => .tup [.one (vw Thing.cod r13.1), qb r13.2]) [.one (vw Thing.cod l8), .agg (Event.cells x12)] (F74_ok _ _ _) (fun r13 => ?_))))
   refine SimI.ru 5 [] (.thenN (.su 2 [] (.cd _ ?_ ?_)))
   ·refine Sim.exit (.blockY rfl (.thenX (.loopX (.blockX (.thenN (.pr [0, 6, 7] [9] [] [(0, .one (vw Thing.cod a0)), (6, .one (vw Thing.cod r13.1)), (7, qb r13.2)] [] ?_))))))
    exact F58_j16_ok n a0 r13.1 r13.2
   ·refine Sim.skip (.blockN (.thenN (.region0 (.ru 2 [] (.loopN (.pr [0, 6, 7, 12, 13, 14] [9] [] [(0, .one (vw Thing.cod a0)), (6, .one (vw Thing.cod r13.1)), (7, qb r13.2), (12, .one (vw Event.cod a1)), (13, qj ((a1).length : Int)), (14, qj (iw .i64 (i10 + 1)))] [] ?_))))))
    exact ih_l11 r13.1 r13.2 (iw .i64 (i10 + 1))
  ·refine Sim.exit (.thenX (.loopX (.blockX (.thenN (.pr [0, 6, 7] [9] [] [(0, .one (vw Thing.cod a0)), (6, .one (vw Thing.cod l8)), (7, qb b9)] [] ?_)))))
   exact F58_j16_ok n a0 l8 b9
def F58 (n : Nat) (a0 : (List Thing)) (a1 : (List Event)) : Option ((List Thing) × Bool) :=
 (zca a0).bind fun (l1 : (List Thing)) =>
 F58_l11 n a0 a1 (n + 8) l1 true 0
theorem F58_ok (n : Nat) (a0 : (List Thing)) (a1 : (List Event)) : ∀ r, F58 n a0 a1 = some r → D 58 [.one (vw Thing.cod a0), .one (vw Event.cod a1)] [] = some (F58_e r) := by
 refine zan (D := D) (n := n + 8) (nt := 32) (rs := pc58_r) (c := p58c41) (L := [(0, .one (vw Thing.cod a0)), (1, .one (vw Event.cod a1))]) (M := []) (k := 0) rfl rfl rfl rfl rfl rfl rfl ?_
 unfold F58
 refine Sim.su 2 [] (.scope (.sv 1 [] (.bn ⟨some 11, .gcall false true [399990, 399991] [[(0, 11)]] 50 [10], none, []⟩ (fun l1 => [(11, .one (vw Thing.cod l1))]) (fun l1 => []) (fun l1 hr => pe (zar (ks := []) (rks := []) (new := [399990]) (ARGS := [.one (vw Thing.cod a0)]) (args1 := [.one (vw Thing.cod a0)]) (args2 := [.one (vw Thing.cod a0)]) (os := []) (os' := [.arr 54 Thing.cod.sz 0 (l1).length (zaa Thing.cod l1)]) (os1 := [.arr 54 Thing.cod.sz 0 (l1).length (zaa Thing.cod l1)]) (res := .one (.osl 1000000 0 0 (l1).length)) (res1 := .one (vw Thing.cod l1)) (r := .one (vw Thing.cod l1)) (N := []) (by kernel_rfl) (zax (zak (by kernel_rfl) (zas))) (by kernel_rfl) (by kernel_rfl) (by kernel_rfl) (by kernel_rfl) (D_b50 (l := a0) (r := l1) hr) (by kernel_rfl) (by kernel_rfl) (by kernel_rfl) (frz_new (c := Thing.cod) 54 l1) (by kernel_rfl) (by kernel_rfl) (by kernel_rfl))) (fun l1 => ?_))))
 refine SimI.ru 2 [] (.thenN (.seq (.label (.thenN (.seq (.su 3 [] (.block (.loop (.pr [0, 6, 7, 12, 13, 14] [9] [] [(0, .one (vw Thing.cod a0)), (6, .one (vw Thing.cod l1)), (7, qb true), (12, .one (vw Event.cod a1)), (13, qj ((a1).length : Int)), (14, qj 0)] [] ?_)))))))))
 exact F58_l11_ok n a0 a1 (n + 8) l1 true 0
def F46_e : View → PV × List Ob := fun r => (.tup [], [.cells [li .i64 r.client, li .i64 r.session, li .i64 r.n, li .i64 r.beat, li .i64 r.start, vw Thing.cod r.things, .osl 1000001 1 0 (r.log_).length, .mp 1000002], .arr 58 Event.cod.sz 1 (r.log_).length (zaa Event.cod r.log_), .map (zaj Key.cells Event.cod r.wait)])
def F46 (n : Nat) (a0 : View) (a1 : (List Event)) : Option View :=
 (F58 n a0.things a1).bind fun (r1 : ((List Thing) × Bool)) =>
 if !(r1.2) then
  some a0
 else
  if ((a0.log_).length + (a1).length) * 264 ≤ zae ∧ (a0.log_).length + (a1).length ≤ zae then
   some (View.mk a0.client a0.session a0.n a0.beat a0.start r1.1 (a0.log_ ++ a1) a0.wait)
  else none
theorem F46_ok (n : Nat) (a0 : View) (a1 : (List Event)) : ∀ r, F46 n a0 a1 = some r → D 46 [.one (.ptr 1000000 0), .one (vw Event.cod a1)] [.cells [li .i64 a0.client, li .i64 a0.session, li .i64 a0.n, li .i64 a0.beat, li .i64 a0.start, vw Thing.cod a0.things, .osl 1000001 0 0 (a0.log_).length, .mp 1000002], .arr 58 Event.cod.sz 0 (a0.log_).length (zaa Event.cod a0.log_), .map (zaj Key.cells Event.cod a0.wait)] = some (F46_e r) := by
 refine zan (D := D) (n := n + 8) (nt := 30) (rs := pc46_r) (c := p46c11) (L := [(0, qp 1000000 0), (1, .one (vw Event.cod a1))]) (M := (W9 a0)) (k := 3) rfl rfl rfl rfl rfl rfl rfl ?_
 unfold F46
 refine Sim.sv 5 [] (.cl 12 true [[(0, 11)], [(0, 25)]] 58 [10, 11] none (fun r1 => .tup [.one (vw Thing.cod r1.1), qb r1.2]) [.one (vw Thing.cod a0.things), .one (vw Event.cod a1)] (F58_ok _ _ _) (fun r1 => ?_))
 refine SimI.ru 5 [] (.thenN (.seq (.su 2 [] (.cd _ ?_ ?_))))
 ·exact Sim.ret (.thenR .fn)
 ·exact Sim.skip (.thenN (.su 5 [(1000000, some (.cells [lj a0.client, lj a0.session, lj a0.n, lj a0.beat, lj a0.start, vw Thing.cod r1.1, .osl 1000001 0 0 (a0.log_).length, .mp 1000002]))] (.region0 (.rv 6 [] (.gu ⟨some 27, .app 100025 58 25 264 25 26, none, []⟩ [(27, .one (.osl 1000001 (0 + 1) 0 ((a0.log_ ++ a1)).length))] [(1000001, some (.arr 58 Event.cod.sz (0 + 1) ((a0.log_ ++ a1)).length (zaa Event.cod (a0.log_ ++ a1))))] (fun hc => pe (eff_appOL (c := Event.cod) (g := 0) (l := a0.log_) (m := a1) (by kernel_rfl) (by kernel_rfl) (by kernel_rfl) (by kernel_rfl) hc)) (.ru 3 [(1000000, some (.cells [lj a0.client, lj a0.session, lj a0.n, lj a0.beat, lj a0.start, vw Thing.cod r1.1, .osl 1000001 (0 + 1) 0 ((a0.log_ ++ a1)).length, .mp 1000002]))] (.finN (by kernel_rfl))))))))
def F15_e : (Bool × View) → PV × List Ob := fun r => (.one (lb r.1), [.cells [li .i64 r.2.client, li .i64 r.2.session, li .i64 r.2.n, li .i64 r.2.beat, li .i64 r.2.start, vw Thing.cod r.2.things, .osl 1000001 1 0 (r.2.log_).length, .mp 1000002], .arr 58 Event.cod.sz 1 (r.2.log_).length (zaa Event.cod r.2.log_), .map (zaj Key.cells Event.cod r.2.wait)])
def zfs (n : Nat) (i21 i22 i23 : Int) (rec_l27 : Int → Int → Int → Int → Int → (List Thing) → (List Event) → (List (Key × (List Event))) → Option (Bool × View)) : Nat → Int → Int → Int → Int → Int → Int → (List Thing) → (List Event) → (List (Key × (List Event))) → Option (Bool × View)
 | 0, _, _, _, _, _, _, _, _, _ => none
 | m + 1, i50, i51, i52, i53, i54, i55, l56, l57, l58 =>
  if decide (i50 < i21) then
   (F46 n (View.mk i51 i52 i53 i54 i55 l56 l57 l58) (mget (Key.mk i50 (imax (IntKind.wrap .i64 (i22 + 1)) i23)) l58)).bind fun (r60 : View) =>
   (zfs n i21 i22 i23 rec_l27 m) (IntKind.wrap .i64 (i50 + 1)) r60.client r60.session r60.n r60.beat r60.start r60.things r60.log_ (mcut (Key.mk i50 (imax (IntKind.wrap .i64 (i22 + 1)) i23)) r60.wait)
  else
   rec_l27 i51 i52 i53 (imax (IntKind.wrap .i64 (i22 + 1)) i23) i55 l56 l57 l58
theorem F15_l59_ok (n : Nat) (i21 i22 i23 : Int) (rec_l27 : Int → Int → Int → Int → Int → (List Thing) → (List Event) → (List (Key × (List Event))) → Option (Bool × View)) (m_l27 : Nat) (ih_l27 : ∀ (i19 i20 i21 i22 i23 : Int) (l24 : (List Thing)) (l25 : (List Event)) (l26 : (List (Key × (List Event)))), SimL Try.prog D (n + 8) m_l27 p15c57 [(0, qp 1000000 0)] (W5 i19 i20 i21 i22 i23 l24 l25 l26) (rec_l27 i19 i20 i21 i22 i23 l24 l25 l26) (QB 0 (QT Try.prog D (n + 8) p15c62 (QF false pc15_r 3 F15_e)))) : ∀ (m : Nat) (i50 i51 i52 i53 i54 i55 : Int) (l56 : (List Thing)) (l57 : (List Event)) (l58 : (List (Key × (List Event)))), SimL Try.prog D (n + 8) m p15c49 [(0, qp 1000000 0), (5, qj (imax (IntKind.wrap .i64 (i22 + 1)) i23)), (65, qj i21), (66, qj i50)] (W5 i51 i52 i53 i54 i55 l56 l57 l58) (zfs n i21 i22 i23 rec_l27 m i50 i51 i52 i53 i54 i55 l56 l57 l58) (QB 4 (QT Try.prog D (n + 8) p15c53 (QB 1 (QL Try.prog D (n + 8) m_l27 p15c57 (QB 0 (QT Try.prog D (n + 8) p15c62 (QF false pc15_r 3 F15_e))))))) := by
 intro m_l59
 induction m_l59 with
 | zero => intro i50 i51 i52 i53 i54 i55 l56 l57 l58; exact SimL.zero'  rfl
 | succ m_l59 ih_l59 =>
  intro i50 i51 i52 i53 i54 i55 l56 l57 l58
  refine SimL.succ ?_
  unfold zfs
  refine Sim.seq (.rg [(0, qp 1000000 0), (5, qj (imax (iw .i64 (i22 + 1)) i23)), (65, qj i21), (66, qj i50)] (W5 i51 i52 i53 i54 i55 l56 l57 l58) (.ru 1 [] (.thenN (.seq (.cd _ ?_ ?_)))))
  ·refine Sim.skip (.thenN (.seq (.block (.su 2 [] (.sv 8 [] (.se ⟨some 77, .mlook false 97 [(0, 25)] 73 76, none, []⟩ [(77, .one (vw Event.cod (mget (Key.mk i50 (imax (iw .i64 (i22 + 1)) i23)) l58)))] [] (pe (eff_mlook (sz := 25) (c := Event.cod) Key_map (m := 1000002) (l := l58) (key := (Key.mk i50 (imax (iw .i64 (i22 + 1)) i23))) (by kernel_rfl) (by kernel_rfl) (by kernel_rfl) (by kernel_rfl) false)) (.bn ⟨some 78, .gcall false false W19 [[], [(0, 25)]] 46 [69, 77], none, []⟩ (fun r60 => [(78, tz)]) (fun r60 => [(1000000, some (.cells [lj r60.client, lj r60.session, lj r60.n, lj r60.beat, lj r60.start, vw Thing.cod r60.things, .osl 1000001 (1 + 1) 0 (r60.log_).length, .mp 1000002])), (1000001, some (.arr 58 Event.cod.sz (1 + 1) (r60.log_).length (zaa Event.cod r60.log_))), (1000002, some (.map (zaj Key.cells Event.cod r60.wait)))]) (fun r60 hr => pe (gq (ks := W19) (ARGS := [qp 1000000 0, .one (vw Event.cod (mget (Key.mk i50 (imax (iw .i64 (i22 + 1)) i23)) l58))]) (F46_ok _ _ _ _ hr))) (fun r60 => ?_))))))))
   refine SimI.dn (.thenN (.region0 (.rv 7 [] (.se ⟨none, .mdel 97 82 85, none, []⟩ [] [(1000002, some (.map (zaj Key.cells Event.cod (mcut (Key.mk i50 (imax (iw .i64 (i22 + 1)) i23)) r60.wait))))] (pOp_eff_ (by kernel_rfl) (by kernel_rfl) (eff_mdel (c := Event.cod) Key_map (m := 1000002) (l := r60.wait) (key := (Key.mk i50 (imax (iw .i64 (i22 + 1)) i23))) (by kernel_rfl) (by kernel_rfl) (by kernel_rfl))) (.dn (.blockN (.thenN (.region0 (.ru 2 [] (.loopN (.pr [0, 5, 65, 66] W19 [] [(0, qp 1000000 0), (5, qj (imax (iw .i64 (i22 + 1)) i23)), (65, qj i21), (66, qj (iw .i64 (i50 + 1)))] [(1000000, some (.cells (W25 r60))), (1000001, some (.arr 58 Event.cod.sz 1 (r60.log_).length (zaa Event.cod r60.log_))), (1000002, some (.map (zaj Key.cells Event.cod (mcut (Key.mk i50 (imax (iw .i64 (i22 + 1)) i23)) r60.wait))))] ?_)))))))))))
   exact ih_l59 (iw .i64 (i50 + 1)) r60.client r60.session r60.n r60.beat r60.start r60.things r60.log_ (mcut (Key.mk i50 (imax (iw .i64 (i22 + 1)) i23)) r60.wait)
  ·refine Sim.exit (.thenX (.loopX (.blockX (.thenN (.region0 (.ru 5 [(1000000, some (.cells [lj i51, lj i52, lj i53, lj (imax (iw .i64 (i22 + 1)) i23), lj i55, vw Thing.cod l56, .osl 1000001 1 0 (l57).length, .mp 1000002]))] (.blockN (.loopN (.pr [0] W55 [] [(0, qp 1000000 0)] [(1000000, some (.cells [lj i51, lj i52, lj i53, lj (imax (iw .i64 (i22 + 1)) i23), lj i55, vw Thing.cod l56, .osl 1000001 1 0 (l57).length, .mp 1000002])), (1000001, some (.arr 58 Event.cod.sz 1 (l57).length (zaa Event.cod l57))), (1000002, some (.map (zaj Key.cells Event.cod l58)))] ?_)))))))))
   exact ih_l27 i51 i52 i53 (imax (iw .i64 (i22 + 1)) i23) i55 l56 l57 l58
def F15_l31 (n : Nat) (i19 i20 i21 i22 i23 : Int) (l24 : (List Thing)) (l25 : (List Event)) (l26 : (List (Key × (List Event)))) (rec_l27 : Int → Int → Int → Int → Int → (List Thing) → (List Event) → (List (Key × (List Event))) → Option (Bool × View)) : Nat → Int → Option (Bool × View)
 | 0, _ => none
 | m + 1, i30 =>
  if decide (i30 < i21) then
   if !(mhas (Key.mk i30 (imax (IntKind.wrap .i64 (i22 + 1)) i23)) l26) then
    some (true, (View.mk i19 i20 i21 i22 i23 l24 l25 l26))
   else
    (F15_l31 n i19 i20 i21 i22 i23 l24 l25 l26 rec_l27 m) (IntKind.wrap .i64 (i30 + 1))
  else
   zfs n i21 i22 i23 rec_l27 (n + 8) 0 i19 i20 i21 i22 i23 l24 l25 l26
theorem F15_l31_ok (n : Nat) (i19 i20 i21 i22 i23 : Int) (l24 : (List Thing)) (l25 : (List Event)) (l26 : (List (Key × (List Event)))) (rec_l27 : Int → Int → Int → Int → Int → (List Thing) → (List Event) → (List (Key × (List Event))) → Option (Bool × View)) (m_l27 : Nat) (ih_l27 : ∀ (i19 i20 i21 i22 i23 : Int) (l24 : (List Thing)) (l25 : (List Event)) (l26 : (List (Key × (List Event)))), SimL Try.prog D (n + 8) m_l27 p15c57 [(0, qp 1000000 0)] (W5 i19 i20 i21 i22 i23 l24 l25 l26) (rec_l27 i19 i20 i21 i22 i23 l24 l25 l26) (QB 0 (QT Try.prog D (n + 8) p15c62 (QF false pc15_r 3 F15_e)))) : ∀ (m : Nat) (i30 : Int), SimL Try.prog D (n + 8) m p15c31 [(0, qp 1000000 0), (5, qj (imax (IntKind.wrap .i64 (i22 + 1)) i23)), (44, qj i21), (45, qj i30)] (W5 i19 i20 i21 i22 i23 l24 l25 l26) (F15_l31 n i19 i20 i21 i22 i23 l24 l25 l26 rec_l27 m i30) (QB 2 (QT Try.prog D (n + 8) p15c54 (QB 1 (QL Try.prog D (n + 8) m_l27 p15c57 (QB 0 (QT Try.prog D (n + 8) p15c62 (QF false pc15_r 3 F15_e))))))) := by
 intro m_l31
 induction m_l31 with
 | zero => intro i30; exact SimL.zero'  rfl
 | succ m_l31 ih_l31 =>
  intro i30
  refine SimL.succ ?_
  unfold F15_l31
  refine Sim.seq (.rg [(0, qp 1000000 0), (5, qj (imax (iw .i64 (i22 + 1)) i23)), (44, qj i21), (45, qj i30)] (W5 i19 i20 i21 i22 i23 l24 l25 l26) (.ru 1 [] (.thenN (.seq (.cd _ ?_ ?_)))))
  ·refine Sim.skip (.thenN (.seq (.block (.su 2 [] (.sv 7 [] (.se ⟨some 56, .mlook true 97 [(0, 25)] 52 55, none, []⟩ [(56, .tup [.one (vw Event.cod (mget (Key.mk i30 (imax (iw .i64 (i22 + 1)) i23)) l26)), qb (mhas (Key.mk i30 (imax (iw .i64 (i22 + 1)) i23)) l26)])] [] (pe (eff_mlook (sz := 25) (c := Event.cod) Key_map (m := 1000002) (l := l26) (key := (Key.mk i30 (imax (iw .i64 (i22 + 1)) i23))) (by kernel_rfl) (by kernel_rfl) (by kernel_rfl) (by kernel_rfl) true)) (.ru 5 [] (.thenN (.su 2 [] (.cd _ ?_ ?_))))))))))
   ·exact Sim.exit (.blockY rfl (.thenX (.loopX (.blockY rfl (.thenX (.blockY rfl (.loopX (.blockX (.thenN (.su 1 [] (.ret .fn)))))))))))
   ·refine Sim.skip (.blockN (.thenN (.region0 (.ru 2 [] (.loopN (.pr [0, 5, 44, 45] W19 [] [(0, qp 1000000 0), (5, qj (imax (iw .i64 (i22 + 1)) i23)), (44, qj i21), (45, qj (iw .i64 (i30 + 1)))] (W5 i19 i20 i21 i22 i23 l24 l25 l26) ?_))))))
    exact ih_l31 (iw .i64 (i30 + 1))
  ·refine Sim.exit (.thenX (.loopX (.blockX (.thenN (.seq (.su 5 [] (.block (.loop (.pr [0, 5, 65, 66] W19 [] [(0, qp 1000000 0), (5, qj (imax (iw .i64 (i22 + 1)) i23)), (65, qj i21), (66, qj 0)] (W5 i19 i20 i21 i22 i23 l24 l25 l26) ?_)))))))))
   exact F15_l59_ok n i21 i22 i23 rec_l27 m_l27 ih_l27 (n + 8) 0 i19 i20 i21 i22 i23 l24 l25 l26
def zcy (n : Nat) : Nat → Int → Int → Int → Int → Int → (List Thing) → (List Event) → (List (Key × (List Event))) → Option (Bool × View)
 | 0, _, _, _, _, _, _, _, _ => none
 | m + 1, i19, i20, i21, i22, i23, l24, l25, l26 =>
  F15_l31 n i19 i20 i21 i22 i23 l24 l25 l26 (zcy n m) (n + 8) 0
theorem F15_l27_ok (n : Nat) : ∀ (m : Nat) (i19 i20 i21 i22 i23 : Int) (l24 : (List Thing)) (l25 : (List Event)) (l26 : (List (Key × (List Event)))), SimL Try.prog D (n + 8) m p15c57 [(0, qp 1000000 0)] (W5 i19 i20 i21 i22 i23 l24 l25 l26) (zcy n m i19 i20 i21 i22 i23 l24 l25 l26) (QB 0 (QT Try.prog D (n + 8) p15c62 (QF false pc15_r 3 F15_e))) := by
 intro m_l27
 induction m_l27 with
 | zero => intro i19 i20 i21 i22 i23 l24 l25 l26; exact SimL.zero'  rfl
 | succ m_l27 ih_l27 =>
  intro i19 i20 i21 i22 i23 l24 l25 l26
  refine SimL.succ ?_
  unfold zcy
  refine Sim.block (.seq (.rg [(0, qp 1000000 0)] (W5 i19 i20 i21 i22 i23 l24 l25 l26) (.ru 11 [] (.thenN (.seq (.su 5 [] (.block (.loop (.pr [0, 5, 44, 45] W19 [] [(0, qp 1000000 0), (5, qj (imax (iw .i64 (i22 + 1)) i23)), (44, qj i21), (45, qj 0)] (W5 i19 i20 i21 i22 i23 l24 l25 l26) ?_)))))))))
  exact F15_l31_ok n i19 i20 i21 i22 i23 l24 l25 l26 (zcy n m_l27) m_l27 ih_l27 (n + 8) 0
def F15 (n : Nat) (a0 : View) (a1 : Frame) : Option (Bool × View) :=
 (F44 n a0 a1).bind fun (r1 : (Bool × View)) =>
 if !(r1.1) then
  some (false, r1.2)
 else
  (zca a1.Events).bind fun (l2 : (List Event)) =>
  zcy n (n + 8) r1.2.client r1.2.session r1.2.n r1.2.beat a1.Start r1.2.things r1.2.log_ (mput (Key.mk a1.From a1.Beat) l2 r1.2.wait)
theorem F15_ok (n : Nat) (a0 : View) (a1 : Frame) : ∀ r, F15 n a0 a1 = some r → D 15 [.one (.ptr 1000000 0), .agg [li .i64 a1.From, li .i64 a1.Client, li .i64 a1.Session, li .i64 a1.Start, li .i64 a1.Beat, vw Event.cod a1.Events]] [.cells [li .i64 a0.client, li .i64 a0.session, li .i64 a0.n, li .i64 a0.beat, li .i64 a0.start, vw Thing.cod a0.things, .osl 1000001 0 0 (a0.log_).length, .mp 1000002], .arr 58 Event.cod.sz 0 (a0.log_).length (zaa Event.cod a0.log_), .map (zaj Key.cells Event.cod a0.wait)] = some (F15_e r) := by
 refine zan (D := D) (n := n + 8) (nt := 91) (rs := pc15_r) (c := p15c69) (L := [(0, qp 1000000 0), (1, .agg (w0 a1))]) (M := (W9 a0)) (k := 3) rfl rfl rfl rfl rfl rfl rfl ?_
 unfold F15
 refine Sim.su 2 [(3, some (.cells (w0 a1)))] (.scope (.seq (.sv 2 [] (.bn ⟨some 12, .gcall false false W19 [[], [(5, 25)]] 44 [10, 11], none, []⟩ (fun r1 => [(12, qb r1.1)]) (fun r1 => [(1000000, some (.cells [lj r1.2.client, lj r1.2.session, lj r1.2.n, lj r1.2.beat, lj r1.2.start, vw Thing.cod r1.2.things, .osl 1000001 (0 + 1) 0 (r1.2.log_).length, .mp 1000002])), (1000001, some (.arr 58 Event.cod.sz (0 + 1) (r1.2.log_).length (zaa Event.cod r1.2.log_))), (1000002, some (.map (zaj Key.cells Event.cod r1.2.wait)))]) (fun r1 hr => pe (gq (ks := W19) (ARGS := [qp 1000000 0, .agg (w0 a1)]) (F44_ok _ _ _ _ hr))) (fun r1 => ?_)))))
 refine SimI.ru 1 [] (.thenN (.cd _ ?_ ?_))
 ·exact Sim.su 1 [] (.ret (.thenR .fn))
 ·refine Sim.skip (.thenN (.su 6 [(1000000, some (.cells [lj r1.2.client, lj r1.2.session, lj r1.2.n, lj r1.2.beat, lj a1.Start, vw Thing.cod r1.2.things, .osl 1000001 (0 + 1) 0 (r1.2.log_).length, .mp 1000002]))] (.sv 11 [] (.bn ⟨some 30, .gcall false true [399990, 399991] [[(0, 25)]] 45 [29], none, [(29, .imm)]⟩ (fun l2 => [(30, .one (vw Event.cod l2))]) (fun l2 => []) (fun l2 hr => pe (zar (ks := []) (rks := []) (new := [399990]) (ARGS := [.one (vw Event.cod a1.Events)]) (args1 := [.one (vw Event.cod a1.Events)]) (args2 := [.one (vw Event.cod a1.Events)]) (os := []) (os' := [.arr 58 Event.cod.sz 0 (l2).length (zaa Event.cod l2)]) (os1 := [.arr 58 Event.cod.sz 0 (l2).length (zaa Event.cod l2)]) (res := .one (.osl 1000000 0 0 (l2).length)) (res1 := .one (vw Event.cod l2)) (r := .one (vw Event.cod l2)) (N := []) (by kernel_rfl) (zax (zak (by kernel_rfl) (zas))) (by kernel_rfl) (by kernel_rfl) (by kernel_rfl) (by kernel_rfl) (D_b45 (l := a1.Events) (r := l2) hr) (by kernel_rfl) (by kernel_rfl) (by kernel_rfl) (frz_new (c := Event.cod) 58 l2) (by kernel_rfl) (by kernel_rfl) (by kernel_rfl))) (fun l2 => ?_)))))
  refine SimI.se ⟨none, .mset 97 22 27 30, none, [(22, Hint.obj 1000002), (27, .imm), (30, .imm)]⟩ [] [(1000002, some (.map (zaj Key.cells Event.cod (mput (Key.mk a1.From a1.Beat) l2 r1.2.wait))))] (pOp_eff_ (by kernel_rfl) (by kernel_rfl) (eff_mset (c := Event.cod) Key_map (m := 1000002) (l := r1.2.wait) (key := (Key.mk a1.From a1.Beat)) (y := l2) (by kernel_rfl) (by kernel_rfl) (by kernel_rfl) (by kernel_rfl))) (.dn (.thenN (.seq (.label (.thenN (.seq (.block (.loop (.pr [0] W55 [] [(0, qp 1000000 0)] [(1000000, some (.cells [lj r1.2.client, lj r1.2.session, lj r1.2.n, lj r1.2.beat, lj a1.Start, vw Thing.cod r1.2.things, .osl 1000001 1 0 (r1.2.log_).length, .mp 1000002])), (1000001, some (.arr 58 Event.cod.sz 1 (r1.2.log_).length (zaa Event.cod r1.2.log_))), (1000002, some (.map (zaj Key.cells Event.cod (mput (Key.mk a1.From a1.Beat) l2 r1.2.wait))))] ?_)))))))))
  exact F15_l27_ok n (n + 8) r1.2.client r1.2.session r1.2.n r1.2.beat a1.Start r1.2.things r1.2.log_ (mput (Key.mk a1.From a1.Beat) l2 r1.2.wait)
def F35_e : (Int × Client) → PV × List Ob := fun r => (.one (li .i64 r.1), [.cells (li .i64 r.2.id_ :: li .i64 r.2.n :: li .i64 r.2.session :: .ptr 1000001 0 :: zad r.2.asked [lb r.2.busy, li .i64 r.2.seq, li .i64 r.2.thing, li .i64 r.2.e]), .cells [li .i64 r.2.v.client, li .i64 r.2.v.session, li .i64 r.2.v.n, li .i64 r.2.v.beat, li .i64 r.2.v.start, vw Thing.cod r.2.v.things, .osl 1000002 1 0 (r.2.v.log_).length, .mp 1000003], .arr 58 Event.cod.sz 1 (r.2.v.log_).length (zaa Event.cod r.2.v.log_), .map (zaj Key.cells Event.cod r.2.v.wait)])
def F35 (n : Nat) (a0 : Client) (a1 : Packet) : Option (Int × Client) :=
 if a1.To != (IntKind.wrap .i64 (100 + a0.id_)) then
  some (20, a0)
 else
  if a1.Kind == 2 then
   if a0.busy then
    if a1.Session == a0.session then
     if a1.Seq == a0.asked.Seq then
      if a1.From == a0.asked.To then
       some (0, (Client.mk a0.id_ a0.n a0.session a0.v a0.asked false a0.seq a1.ID a1.E))
      else
       some (0, a0)
     else
      some (0, a0)
    else
     some (0, a0)
   else
    some (0, a0)
  else
   if a1.Kind == 4 then
    (F15 n a0.v a1.F).bind fun (r1 : (Bool × View)) =>
    some (0, (Client.mk a0.id_ a0.n a0.session r1.2 a0.asked a0.busy a0.seq a0.thing a0.e))
   else
    some (11, a0)
theorem F35_ok (n : Nat) (a0 : Client) (a1 : Packet) : ∀ r, F35 n a0 a1 = some r → D 35 [.one (.ptr 1000000 0), .agg (zad a1 [])] [.cells (li .i64 a0.id_ :: li .i64 a0.n :: li .i64 a0.session :: .ptr 1000001 0 :: zad a0.asked [lb a0.busy, li .i64 a0.seq, li .i64 a0.thing, li .i64 a0.e]), .cells [li .i64 a0.v.client, li .i64 a0.v.session, li .i64 a0.v.n, li .i64 a0.v.beat, li .i64 a0.v.start, vw Thing.cod a0.v.things, .osl 1000002 0 0 (a0.v.log_).length, .mp 1000003], .arr 58 Event.cod.sz 0 (a0.v.log_).length (zaa Event.cod a0.v.log_), .map (zaj Key.cells Event.cod a0.v.wait)] = some (F35_e r) := by
 refine zan (D := D) (n := n + 8) (nt := 72) (rs := pc35_r) (c := p35c32) (L := [(0, qp 1000000 0), (1, .agg (zad a1 []))]) (M := (W3 a0)) (k := 4) rfl rfl rfl rfl rfl rfl rfl ?_
 unfold F35
 refine Sim.su 2 [(3, some (.cells (zad a1 [])))] (.seq (.su 8 [] (.cd _ ?_ ?_)))
 ·exact Sim.su 1 [] (.ret (.thenR .fn))
 ·refine Sim.skip (.thenN (.seq (.su 2 [] (.block (.su 2 [] (.cd _ ?_ ?_))))))
  ·refine Sim.sv 5 [] (.sp 21 _ ?_ ?_)
   ·refine SimI.rv 9 [] (.sp 30 _ ?_ ?_)
    ·refine SimI.rv 10 [] (.sp 40 _ ?_ ?_)
     ·refine SimI.ru 9 [] (.thenN (.cd _ ?_ ?_))
      ·exact Sim.region0 (.ru 16 [(1000000, some (.cells (lj a0.id_ :: lj a0.n :: lj a0.session :: .ptr 1000001 0 :: zad a0.asked [lb false, lj a0.seq, lj a1.ID, lj a1.E]))), (1000000, some (.cells (lj a0.id_ :: lj a0.n :: lj a0.session :: .ptr 1000001 0 :: zad a0.asked [lb false, lj a0.seq, lj a1.ID, lj a0.e]))), (1000000, some (.cells (lj a0.id_ :: lj a0.n :: lj a0.session :: .ptr 1000001 0 :: zad a0.asked [lb false, lj a0.seq, lj a0.thing, lj a0.e])))] (.blockN (.thenN (.su 1 [] (.ret .fn)))))
      ·exact Sim.skip (.blockN (.thenN (.su 1 [] (.ret .fn))))
     ·exact SimI.ru 9 [] (.thenN (.cf (.skip (.blockN (.thenN (.su 1 [] (.ret .fn)))))))
    ·exact SimI.ru 19 [] (.thenN (.cf (.skip (.blockN (.thenN (.su 1 [] (.ret .fn)))))))
   ·exact SimI.ru 28 [] (.thenN (.cf (.skip (.blockN (.thenN (.su 1 [] (.ret .fn)))))))
  ·refine Sim.su 2 [] (.cd _ ?_ ?_)
   ·refine Sim.region0 (.rv 6 [] (.bn ⟨some 71, .gcall false false W54 [[], [(5, 25)]] 15 [68, 70], none, [(68, .at_ 1000001 0), (70, .imm)]⟩ (fun r1 => [(71, qb r1.1)]) (fun r1 => [(1000001, some (.cells [lj r1.2.client, lj r1.2.session, lj r1.2.n, lj r1.2.beat, lj r1.2.start, vw Thing.cod r1.2.things, .osl 1000002 (0 + 1) 0 (r1.2.log_).length, .mp 1000003])), (1000002, some (.arr 58 Event.cod.sz (0 + 1) (r1.2.log_).length (zaa Event.cod r1.2.log_))), (1000003, some (.map (zaj Key.cells Event.cod r1.2.wait)))]) (fun r1 hr => pe (gq (ks := W54) (ARGS := [qp 1000001 0, .agg (w5 a1)]) (F15_ok _ _ _ _ hr))) (fun r1 => ?_)))
    exact SimI.dn (.blockN (.thenN (.su 1 [] (.ret .fn))))
   ·exact Sim.su 1 [] (.ret (.blockR (.thenR .fn)))
def F40_e : (Int × Int × Client) → PV × List Ob := fun r => (.tup [.one (li .i64 r.1), .one (li .i64 r.2.1)], [.cells (li .i64 r.2.2.id_ :: li .i64 r.2.2.n :: li .i64 r.2.2.session :: .ptr 1000001 0 :: zad r.2.2.asked [lb r.2.2.busy, li .i64 r.2.2.seq, li .i64 r.2.2.thing, li .i64 r.2.2.e]), .cells [li .i64 r.2.2.v.client, li .i64 r.2.2.v.session, li .i64 r.2.2.v.n, li .i64 r.2.2.v.beat, li .i64 r.2.2.v.start, vw Thing.cod r.2.2.v.things, .osl 1000002 1 0 (r.2.2.v.log_).length, .mp 1000003], .arr 58 Event.cod.sz 1 (r.2.2.v.log_).length (zaa Event.cod r.2.2.v.log_), .map (zaj Key.cells Event.cod r.2.2.v.wait)])
def F40 (n : Nat) (a0 : Client) : Option (Int × Int × Client) :=
 some (a0.thing, a0.e, a0)
theorem F40_ok (n : Nat) (a0 : Client) : ∀ r, F40 n a0 = some r → D 40 [.one (.ptr 1000000 0)] [.cells (li .i64 a0.id_ :: li .i64 a0.n :: li .i64 a0.session :: .ptr 1000001 0 :: zad a0.asked [lb a0.busy, li .i64 a0.seq, li .i64 a0.thing, li .i64 a0.e]), .cells [li .i64 a0.v.client, li .i64 a0.v.session, li .i64 a0.v.n, li .i64 a0.v.beat, li .i64 a0.v.start, vw Thing.cod a0.v.things, .osl 1000002 0 0 (a0.v.log_).length, .mp 1000003], .arr 58 Event.cod.sz 0 (a0.v.log_).length (zaa Event.cod a0.v.log_), .map (zaj Key.cells Event.cod a0.v.wait)] = some (F40_e r) := by
 refine zan (D := D) (n := n + 8) (nt := 12) (rs := pc40_r) (c := p40c5) (L := [(0, qp 1000000 0)]) (M := (W3 a0)) (k := 4) rfl rfl rfl rfl rfl rfl rfl ?_
 unfold F40
 exact Sim.su 2 [] (.su 10 [] (.ret .fn))
def F41_e : (Int × Client) → PV × List Ob := fun r => (.one (li .i64 r.1), [.cells (li .i64 r.2.id_ :: li .i64 r.2.n :: li .i64 r.2.session :: .ptr 1000001 0 :: zad r.2.asked [lb r.2.busy, li .i64 r.2.seq, li .i64 r.2.thing, li .i64 r.2.e]), .cells [li .i64 r.2.v.client, li .i64 r.2.v.session, li .i64 r.2.v.n, li .i64 r.2.v.beat, li .i64 r.2.v.start, vw Thing.cod r.2.v.things, .osl 1000002 1 0 (r.2.v.log_).length, .mp 1000003], .arr 58 Event.cod.sz 1 (r.2.v.log_).length (zaa Event.cod r.2.v.log_), .map (zaj Key.cells Event.cod r.2.v.wait)])
def F41 (n : Nat) (a0 : Client) : Option (Int × Client) :=
 some (a0.session, a0)
theorem F41_ok (n : Nat) (a0 : Client) : ∀ r, F41 n a0 = some r → D 41 [.one (.ptr 1000000 0)] [.cells (li .i64 a0.id_ :: li .i64 a0.n :: li .i64 a0.session :: .ptr 1000001 0 :: zad a0.asked [lb a0.busy, li .i64 a0.seq, li .i64 a0.thing, li .i64 a0.e]), .cells [li .i64 a0.v.client, li .i64 a0.v.session, li .i64 a0.v.n, li .i64 a0.v.beat, li .i64 a0.v.start, vw Thing.cod a0.v.things, .osl 1000002 0 0 (a0.v.log_).length, .mp 1000003], .arr 58 Event.cod.sz 0 (a0.v.log_).length (zaa Event.cod a0.v.log_), .map (zaj Key.cells Event.cod a0.v.wait)] = some (F41_e r) := by
 refine zan (D := D) (n := n + 8) (nt := 7) (rs := pc41_r) (c := p41c5) (L := [(0, qp 1000000 0)]) (M := (W3 a0)) (k := 4) rfl rfl rfl rfl rfl rfl rfl ?_
 unfold F41
 exact Sim.su 1 [] (.su 5 [] (.ret .fn))
def F42s0_e (a0 : (List Event)) (a1 a2 a3 : Int) (a4 : Packet) (a5 : Bool) (a6 a7 a8 a9 a10 a11 a12 a13 : Int) (a14 : (List Thing)) (a15 : (List (Key × (List Event)))) : Unit → PV × List Ob := fun r => (.one (.ptr 1000001 0), [.cells (li .i64 a1 :: li .i64 a2 :: li .i64 a3 :: .ptr 1000001 0 :: zad a4 [lb a5, li .i64 a6, li .i64 a7, li .i64 a8]), .cells [li .i64 a9, li .i64 a10, li .i64 a11, li .i64 a12, li .i64 a13, vw Thing.cod a14, .osl 1000002 1 0 (a0).length, .mp 1000003], .arr 58 Event.cod.sz 1 (a0).length (zaa Event.cod a0), .map (zaj Key.cells Event.cod a15)])
def F42s0 (n : Nat) (a0 : (List Event)) (a1 a2 a3 : Int) (a4 : Packet) (a5 : Bool) (a6 a7 a8 a9 a10 a11 a12 a13 : Int) (a14 : (List Thing)) (a15 : (List (Key × (List Event)))) : Option Unit :=
 some ()
theorem F42s0_ok (n : Nat) (a0 : (List Event)) (a1 a2 a3 : Int) (a4 : Packet) (a5 : Bool) (a6 a7 a8 a9 a10 a11 a12 a13 : Int) (a14 : (List Thing)) (a15 : (List (Key × (List Event)))) : ∀ r, F42s0 n a0 a1 a2 a3 a4 a5 a6 a7 a8 a9 a10 a11 a12 a13 a14 a15 = some r → D 42 [.one (.ptr 1000000 0)] [.cells (li .i64 a1 :: li .i64 a2 :: li .i64 a3 :: .ptr 1000001 0 :: zad a4 [lb a5, li .i64 a6, li .i64 a7, li .i64 a8]), .cells [li .i64 a9, li .i64 a10, li .i64 a11, li .i64 a12, li .i64 a13, vw Thing.cod a14, .osl 1000002 0 0 (a0).length, .mp 1000003], .arr 58 Event.cod.sz 0 (a0).length (zaa Event.cod a0), .map (zaj Key.cells Event.cod a15)] = some ((F42s0_e a0 a1 a2 a3 a4 a5 a6 a7 a8 a9 a10 a11 a12 a13 a14 a15) r) := by
 refine zan (D := D) (n := n + 8) (nt := 7) (rs := pc42_r) (c := p42c5) (L := [(0, qp 1000000 0)]) (M := [(1000000, some (.cells (lj a1 :: lj a2 :: lj a3 :: .ptr 1000001 0 :: zad a4 [lb a5, lj a6, lj a7, lj a8]))), (1000001, some (.cells [lj a9, lj a10, lj a11, lj a12, lj a13, vw Thing.cod a14, .osl 1000002 0 0 (a0).length, .mp 1000003])), (1000002, some (.arr 58 Event.cod.sz 0 (a0).length (zaa Event.cod a0))), (1000003, some (.map (zaj Key.cells Event.cod a15)))]) (k := 4) rfl rfl rfl rfl rfl rfl rfl ?_
 unfold F42s0
 exact Sim.su 1 [] (.su 5 [] (.ret .fn))
theorem F25_ok (n : Nat) : ∀ r, (some true : Option Bool) = some r → D 25 [] [] = some (.one (lb r), []) := by
 rintro _ ⟨⟩
 exact all_of (N := 60) (by kernel_rfl)
def F26_e : Bool → PV × List Ob := fun r => (.one (lb r), [])
def F26 (n : Nat) (a0 : Command) : Option Bool :=
 if decide ((40 : Int) < (a0.F.a0.Text.size : Int)) then
  some false
 else
  if decide ((40 : Int) < (a0.F.a1.Text.size : Int)) then
   some false
  else
   if decide ((40 : Int) < (a0.F.a2.Text.size : Int)) then
    some false
   else
    if decide ((40 : Int) < (a0.F.a3.Text.size : Int)) then
     some false
    else
     some (decide ((a0.Value.Text.size : Int) ≤ 40))
theorem F26_ok (n : Nat) (a0 : Command) : ∀ r, F26 n a0 = some r → D 26 [.agg (Command.cells a0)] [] = some (F26_e r) := by
 refine zan (D := D) (n := n + 8) (nt := 20) (rs := pc26_r) (c := p26c26) (L := [(0, .agg (Command.cells a0))]) (M := []) (k := 0) rfl rfl rfl rfl rfl rfl rfl ?_
 unfold F26
 refine Sim.su 2 (W6 a0) (.seq (.su 1 [] (.block (.loop (.succ (.seq (.seq (.rg [(1, qp 1 0), (3, qj 0)] (W6 a0) (.ru 2 [] (.thenN (.ct (.skip (.thenN (.seq (.block (.su 7 [] (.cd _ ?_ ?_)))))))))))))))))
 ·exact Sim.su 1 [] (.ret (.blockR (.thenR (.loopR (.blockR (.thenR .fn))))))
 ·refine Sim.skip (.blockN (.thenN (.region0 (.ru 3 [] (.loopN (.succ (.seq (.seq (.rg [(1, qp 1 0), (3, qj 1)] (W6 a0) (.ru 2 [] (.thenN (.ct (.skip (.thenN (.seq (.block (.su 7 [] (.cd _ ?_ ?_))))))))))))))))))
  ·exact Sim.su 1 [] (.ret (.blockR (.thenR (.loopR (.blockR (.thenR .fn))))))
  ·refine Sim.skip (.blockN (.thenN (.region0 (.ru 3 [] (.loopN (.succ (.seq (.seq (.rg [(1, qp 1 0), (3, qj 2)] (W6 a0) (.ru 2 [] (.thenN (.ct (.skip (.thenN (.seq (.block (.su 7 [] (.cd _ ?_ ?_))))))))))))))))))
   ·exact Sim.su 1 [] (.ret (.blockR (.thenR (.loopR (.blockR (.thenR .fn))))))
   ·refine Sim.skip (.blockN (.thenN (.region0 (.ru 3 [] (.loopN (.succ (.seq (.seq (.rg [(1, qp 1 0), (3, qj 3)] (W6 a0) (.ru 2 [] (.thenN (.ct (.skip (.thenN (.seq (.block (.su 7 [] (.cd _ ?_ ?_))))))))))))))))))
    ·exact Sim.su 1 [] (.ret (.blockR (.thenR (.loopR (.blockR (.thenR .fn))))))
    ·exact Sim.skip (.blockN (.thenN (.region0 (.ru 3 [] (.loopN (.succ (.seq (.seq (.rg [(1, qp 1 0), (3, qj 4)] (W6 a0) (.ru 2 [] (.thenN (.cf (.exit (.thenX (.loopX (.blockX (.thenN (.su 6 [] (.ret .fn)))))))))))))))))))
def F65_e : Bool → PV × List Ob := fun r => (.one (lb r), [])
def F65 (n : Nat) (a0 : Field) : Option Bool :=
 some (decide ((a0.Text.size : Int) ≤ 40))
theorem F65_ok (n : Nat) (a0 : Field) : ∀ r, F65 n a0 = some r → D 65 [.agg [li .i64 a0.N, ls a0.Text]] [] = some (F65_e r) := by
 refine zan (D := D) (n := n + 8) (nt := 7) (rs := pc65_r) (c := p65c5) (L := [(0, .agg [lj a0.N, ls a0.Text])]) (M := []) (k := 0) rfl rfl rfl rfl rfl rfl rfl ?_
 unfold F65
 exact Sim.su 2 (W85 a0) (.su 5 [] (.ret .fn))
def F52_e : Bool → PV × List Ob := fun r => (.one (lb r), [])
def F52 (n : Nat) (a0 : Thing) : Option Bool :=
 (F65 n a0.F.a0).bind fun (r1 : Bool) =>
 if !(r1) then
  some false
 else
  (F65 n a0.F.a1).bind fun (r2 : Bool) =>
  if !(r2) then
   some false
  else
   (F65 n a0.F.a2).bind fun (r3 : Bool) =>
   if !(r3) then
    some false
   else
    (F65 n a0.F.a3).bind fun (r4 : Bool) =>
    if !(r4) then
     some false
    else
     some true
theorem F52_ok (n : Nat) (a0 : Thing) : ∀ r, F52 n a0 = some r → D 52 [.agg (Thing.cells a0)] [] = some (F52_e r) := by
 refine zan (D := D) (n := n + 8) (nt := 14) (rs := pc52_r) (c := p52c26) (L := [(0, .agg (Thing.cells a0))]) (M := []) (k := 0) rfl rfl rfl rfl rfl rfl rfl ?_
 unfold F52
 refine Sim.su 2 (W15 a0) (.seq (.su 1 [] (.block (.loop (.succ (.seq (.seq (.rg [(1, qp 1 0), (3, qj 0)] (W15 a0) (.ru 2 [] (.thenN (.ct (.skip (.thenN (.seq (.block (.sv 4 [] (.cl 12 true [[]] 65 [11] none (fun r1 => qb r1) [.agg [lj a0.F.a0.N, ls a0.F.a0.Text]] (F65_ok _ _) (fun r1 => ?_))))))))))))))))))
 refine SimI.ru 1 [] (.thenN (.cd _ ?_ ?_))
 ·exact Sim.su 1 [] (.ret (.blockR (.thenR (.loopR (.blockR (.thenR .fn))))))
 ·refine Sim.skip (.blockN (.thenN (.region0 (.ru 3 [] (.loopN (.succ (.seq (.seq (.rg [(1, qp 1 0), (3, qj 1)] (W15 a0) (.ru 2 [] (.thenN (.ct (.skip (.thenN (.seq (.block (.sv 4 [] (.cl 12 true [[]] 65 [11] none (fun r2 => qb r2) [.agg [lj a0.F.a1.N, ls a0.F.a1.Text]] (F65_ok _ _) (fun r2 => ?_)))))))))))))))))))
  refine SimI.ru 1 [] (.thenN (.cd _ ?_ ?_))
  ·exact Sim.su 1 [] (.ret (.blockR (.thenR (.loopR (.blockR (.thenR .fn))))))
  ·refine Sim.skip (.blockN (.thenN (.region0 (.ru 3 [] (.loopN (.succ (.seq (.seq (.rg [(1, qp 1 0), (3, qj 2)] (W15 a0) (.ru 2 [] (.thenN (.ct (.skip (.thenN (.seq (.block (.sv 4 [] (.cl 12 true [[]] 65 [11] none (fun r3 => qb r3) [.agg [lj a0.F.a2.N, ls a0.F.a2.Text]] (F65_ok _ _) (fun r3 => ?_)))))))))))))))))))
   refine SimI.ru 1 [] (.thenN (.cd _ ?_ ?_))
   ·exact Sim.su 1 [] (.ret (.blockR (.thenR (.loopR (.blockR (.thenR .fn))))))
   ·refine Sim.skip (.blockN (.thenN (.region0 (.ru 3 [] (.loopN (.succ (.seq (.seq (.rg [(1, qp 1 0), (3, qj 3)] (W15 a0) (.ru 2 [] (.thenN (.ct (.skip (.thenN (.seq (.block (.sv 4 [] (.cl 12 true [[]] 65 [11] none (fun r4 => qb r4) [.agg [lj a0.F.a3.N, ls a0.F.a3.Text]] (F65_ok _ _) (fun r4 => ?_)))))))))))))))))))
    refine SimI.ru 1 [] (.thenN (.cd _ ?_ ?_))
    ·exact Sim.su 1 [] (.ret (.blockR (.thenR (.loopR (.blockR (.thenR .fn))))))
    ·exact Sim.skip (.blockN (.thenN (.region0 (.ru 3 [] (.loopN (.succ (.seq (.seq (.rg [(1, qp 1 0), (3, qj 4)] (W15 a0) (.ru 2 [] (.thenN (.cf (.exit (.thenX (.loopX (.blockX (.thenN (.su 1 [] (.ret .fn)))))))))))))))))))
def F31_e : Bool → PV × List Ob := fun r => (.one (lb r), [])
def F31_l11 (n : Nat) (a0 : (List Step)) (i3 : Int) (rec_l4 : Int → Option Bool) : Nat → Int → Option Bool
 | 0, _ => none
 | m + 1, i10 =>
  (ix a0 i3).bind fun (x12 : Step) =>
  if decide (i10 < ((x12.P.F.Events).length : Int)) then
   (ix a0 i3).bind fun (x13 : Step) =>
   (ix x13.P.F.Events i10).bind fun (x14 : Event) =>
   (F52 n x14.Thing).bind fun (r15 : Bool) =>
   if !(r15) then
    some false
   else
    (ix a0 i3).bind fun (x16 : Step) =>
    (ix x16.P.F.Events i10).bind fun (x17 : Event) =>
    (F52 n (Thing.mk 0 (Point.mk 0 0) x17.Delta.F)).bind fun (r18 : Bool) =>
    if !(r18) then
     some false
    else
     (F31_l11 n a0 i3 rec_l4 m) (IntKind.wrap .i64 (i10 + 1))
  else
   rec_l4 (IntKind.wrap .i64 (i3 + 1))
theorem F31_l11_ok (n : Nat) (a0 : (List Step)) (i3 : Int) (rec_l4 : Int → Option Bool) (m_l4 : Nat) (ih_l4 : ∀ (i3 : Int), SimL Try.prog D (n + 8) m_l4 p31c39 [(0, .one (vw Step.cod a0)), (3, qj i3)] [] (rec_l4 i3) (QB 0 (QT Try.prog D (n + 8) p31c45 (QF false pc31_r 0 F31_e)))) : ∀ (m : Nat) (i10 : Int), SimL Try.prog D (n + 8) m p31c31 [(0, .one (vw Step.cod a0)), (3, qj i3), (4, qj i10)] [] (F31_l11 n a0 i3 rec_l4 m i10) (QB 2 (QB 1 (QT Try.prog D (n + 8) p31c37 (QL Try.prog D (n + 8) m_l4 p31c39 (QB 0 (QT Try.prog D (n + 8) p31c45 (QF false pc31_r 0 F31_e))))))) := by
 intro m_l11
 induction m_l11 with
 | zero => intro i10; exact SimL.zero'  rfl
 | succ m_l11 ih_l11 =>
  intro i10
  refine SimL.succ ?_
  unfold F31_l11
  refine Sim.seq (.seq (.rg [(0, .one (vw Step.cod a0)), (3, qj i3), (4, qj i10)] [] (.rv 3 [] (.bn ⟨some 32, .iaddrS 66 30 31, none, []⟩ (fun x12 => [(32, .one (.eptr (Step.cod.enc x12) 0))]) (fun x12 => []) (fun x12 hr => pe (ei (c := Step.cod) (k := .i64) hr)) (fun x12 => ?_)))))
  refine SimI.ru 6 [] (.thenN (.cd _ ?_ ?_))
  ·refine Sim.skip (.thenN (.seq (.block (.sv 2 [] (.bn ⟨some 43, .iaddrS 66 41 42, none, []⟩ (fun x13 => [(43, .one (.eptr (Step.cod.enc x13) 0))]) (fun x13 => []) (fun x13 hr => pe (ei (c := Step.cod) (k := .i64) hr)) (fun x13 => ?_))))))
   refine SimI.rv 5 [] (.bn ⟨some 49, .iaddrS 25 47 48, none, []⟩ (fun x14 => [(49, .one (.eptr (Event.cod.enc x14) 0))]) (fun x14 => []) (fun x14 hr => pe (ei (c := Event.cod) (k := .i64) hr)) (fun x14 => ?_))
   refine SimI.rv 2 [] (.cl 52 true [[]] 52 [51] none (fun r15 => qb r15) [.agg (Thing.cells x14.Thing)] (F52_ok _ _) (fun r15 => ?_))
   refine SimI.rv 2 [] (.sp 54 _ ?_ ?_)
   ·exact SimI.ru 16 [] (.thenN (.ct (.su 1 [] (.ret (.blockR (.thenR (.loopR (.blockR (.blockR (.thenR (.loopR (.blockR (.thenR .fn)))))))))))))
   ·refine SimI.rv 2 [] (.bn ⟨some 57, .iaddrS 66 55 56, some (54, false), []⟩ (fun x16 => [(57, .one (.eptr (Step.cod.enc x16) 0))]) (fun x16 => []) (fun x16 hr => pe (ei (c := Step.cod) (k := .i64) hr)) (fun x16 => ?_))
    refine SimI.rv 5 [] (.bn ⟨some 63, .iaddrS 25 61 62, some (54, false), []⟩ (fun x17 => [(63, .one (.eptr (Event.cod.enc x17) 0))]) (fun x17 => []) (fun x17 hr => pe (ei (c := Event.cod) (k := .i64) hr)) (fun x17 => ?_))
    refine SimI.rv 4 [] (.cl 68 true [[]] 52 [67] (some (54, false)) (fun r18 => qb r18) [.agg [lj 0, lj 0, lj 0, lj x17.Delta.F.a0.N, ls x17.Delta.F.a0.Text, lj x17.Delta.F.a1.N, ls x17.Delta.F.a1.Text, lj x17.Delta.F.a2.N, ls x17.Delta.F.a2.Text, lj x17.Delta.F.a3.N, ls x17.Delta.F.a3.Text]] (F52_ok _ _) (fun r18 => ?_))
    refine SimI.ru 2 [] (.thenN (.cd _ ?_ ?_))
    ·exact Sim.su 1 [] (.ret (.blockR (.thenR (.loopR (.blockR (.blockR (.thenR (.loopR (.blockR (.thenR .fn))))))))))
    ·refine Sim.skip (.blockN (.thenN (.region0 (.ru 3 [] (.loopN (.pr [0, 3, 4] [] [] [(0, .one (vw Step.cod a0)), (3, qj i3), (4, qj (iw .i64 (i10 + 1)))] [] ?_))))))
     exact ih_l11 (iw .i64 (i10 + 1))
  ·refine Sim.exit (.thenX (.loopX (.blockX (.blockN (.thenN (.region0 (.ru 3 [] (.loopN (.pr [0, 3] [] [] [(0, .one (vw Step.cod a0)), (3, qj (iw .i64 (i3 + 1)))] [] ?_)))))))))
   exact ih_l4 (iw .i64 (i3 + 1))
def F31_l4 (n : Nat) (a0 : (List Step)) : Nat → Int → Option Bool
 | 0, _ => none
 | m + 1, i3 =>
  if decide (i3 < ((a0).length : Int)) then
   (ix a0 i3).bind fun (x5 : Step) =>
   (F26 n x5.C).bind fun (r6 : Bool) =>
   if !(r6) then
    some false
   else
    (ix a0 i3).bind fun (x7 : Step) =>
    if decide ((10 : Int) < ((x7.P.F.Events).length : Int)) then
     some false
    else
     F31_l11 n a0 i3 (F31_l4 n a0 m) (n + 8) 0
  else
   some (decide (((a0).length : Int) ≤ 50))
theorem F31_l4_ok (n : Nat) (a0 : (List Step)) : ∀ (m : Nat) (i3 : Int), SimL Try.prog D (n + 8) m p31c39 [(0, .one (vw Step.cod a0)), (3, qj i3)] [] (F31_l4 n a0 m i3) (QB 0 (QT Try.prog D (n + 8) p31c45 (QF false pc31_r 0 F31_e))) := by
 intro m_l4
 induction m_l4 with
 | zero => intro i3; exact SimL.zero'  rfl
 | succ m_l4 ih_l4 =>
  intro i3
  refine SimL.succ ?_
  unfold F31_l4
  refine Sim.seq (.seq (.rg [(0, .one (vw Step.cod a0)), (3, qj i3)] [] (.ru 4 [] (.thenN (.cd _ ?_ ?_)))))
  ·refine Sim.skip (.thenN (.seq (.block (.seq (.sv 2 [] (.bn ⟨some 13, .iaddrS 66 11 12, none, []⟩ (fun x5 => [(13, .one (.eptr (Step.cod.enc x5) 0))]) (fun x5 => []) (fun x5 hr => pe (ei (c := Step.cod) (k := .i64) hr)) (fun x5 => ?_)))))))
   refine SimI.rv 2 [] (.cl 16 true [[]] 26 [15] none (fun r6 => qb r6) [.agg (Command.cells x5.C)] (F26_ok _ _) (fun r6 => ?_))
   refine SimI.rv 2 [] (.sp 18 _ ?_ ?_)
   ·exact SimI.ru 10 [] (.thenN (.ct (.su 1 [] (.ret (.thenR (.blockR (.thenR (.loopR (.blockR (.thenR .fn))))))))))
   ·refine SimI.rv 2 [] (.bn ⟨some 21, .iaddrS 66 19 20, some (18, false), []⟩ (fun x7 => [(21, .one (.eptr (Step.cod.enc x7) 0))]) (fun x7 => []) (fun x7 hr => pe (ei (c := Step.cod) (k := .i64) hr)) (fun x7 => ?_))
    refine SimI.ru 7 [] (.thenN (.cd _ ?_ ?_))
    ·exact Sim.su 1 [] (.ret (.thenR (.blockR (.thenR (.loopR (.blockR (.thenR .fn)))))))
    ·refine Sim.skip (.thenN (.su 1 [] (.block (.loop (.pr [0, 3, 4] [] [] [(0, .one (vw Step.cod a0)), (3, qj i3), (4, qj 0)] [] ?_)))))
     exact F31_l11_ok n a0 i3 (F31_l4 n a0 m_l4) m_l4 ih_l4 (n + 8) 0
  ·exact Sim.exit (.thenX (.loopX (.blockX (.thenN (.su 4 [] (.ret .fn))))))
def F31 (n : Nat) (a0 : (List Step)) : Option Bool :=
 F31_l4 n a0 (n + 8) 0
theorem F31_ok (n : Nat) (a0 : (List Step)) : ∀ r, F31 n a0 = some r → D 31 [.one (vw Step.cod a0)] [] = some (F31_e r) := by
 refine zan (D := D) (n := n + 8) (nt := 74) (rs := pc31_r) (c := p31c47) (L := [(0, .one (vw Step.cod a0))]) (M := []) (k := 0) rfl rfl rfl rfl rfl rfl rfl ?_
 unfold F31
 refine Sim.su 1 [] (.seq (.su 1 [] (.block (.loop (.pr [0, 3] [] [] [(0, .one (vw Step.cod a0)), (3, qj 0)] [] ?_)))))
 exact F31_l4_ok n a0 (n + 8) 0
def F14_e : View_vedetteref19 → PV × List Ob := fun r => (.one (.ptr 1000000 0), [.cells [li .i64 r.Client, li .i64 r.Session, li .i64 r.N, li .i64 r.Start, li .i64 r.Beat, vw Thing.cod r.L, .osl 1000001 0 0 (r.Log).length, .osl 1000002 0 0 (r.Wait).length], .arr 58 Event.cod.sz 0 (r.Log).length (zaa Event.cod r.Log), .arr 32 Frame.cod.sz 0 (r.Wait).length (zaa Frame.cod r.Wait)])
def F14 (n : Nat) (a0 a1 a2 : Int) : Option View_vedetteref19 :=
 some (View_vedetteref19.mk a0 a1 (imax 1 (imin a2 4)) (-1) (-1) ([] : List Thing) ([] : List Event) ([] : List Frame))
theorem F14_ok (n : Nat) (a0 a1 a2 : Int) : ∀ r, F14 n a0 a1 a2 = some r → D 14 [.one (li .i64 a0), .one (li .i64 a1), .one (li .i64 a2)] [] = some (F14_e r) := by
 refine zan (D := D) (n := n + 8) (nt := 14) (rs := pc14_r) (c := p14c5) (L := [(0, qj a0), (1, qj a1), (2, qj a2)]) (M := []) (k := 0) rfl rfl rfl rfl rfl rfl rfl ?_
 unfold F14
 exact Sim.su 1 [] (.su 8 [(13, some (.cells [lj a0, lj a1, lj (imax 1 (imin a2 4)), lj (-1), lj (-1), vw Thing.cod ([] : List Thing), .osl 400105 0 0 (([] : List Event)).length, .osl 400106 0 0 (([] : List Frame)).length])), (400105, some (.arr 58 Event.cod.sz 0 (([] : List Event)).length (zaa Event.cod ([] : List Event)))), (400106, some (.arr 32 Frame.cod.sz 0 (([] : List Frame)).length (zaa Frame.cod ([] : List Frame))))] (.ret .fn))
def F32_e : Client_vedetteref23 → PV × List Ob := fun r => (.one (.ptr 1000000 0), [.cells (li .i64 r.Me :: li .i64 r.N :: li .i64 r.Session :: li .i64 r.Seq :: lb r.Busy :: zad r.Ask [li .i64 r.E, li .i64 r.ID, .ptr 1000001 0]), .cells [li .i64 r.V.Client, li .i64 r.V.Session, li .i64 r.V.N, li .i64 r.V.Start, li .i64 r.V.Beat, vw Thing.cod r.V.L, .osl 1000002 0 0 (r.V.Log).length, .osl 1000003 0 0 (r.V.Wait).length], .arr 58 Event.cod.sz 0 (r.V.Log).length (zaa Event.cod r.V.Log), .arr 32 Frame.cod.sz 0 (r.V.Wait).length (zaa Frame.cod r.V.Wait)])
def F32 (n : Nat) (a0 a1 : Int) : Option Client_vedetteref23 :=
 (F14 n (imax 0 (imin a0 3)) 1 (imax 1 (imin a1 4))).bind fun (r1 : View_vedetteref19) =>
 some (Client_vedetteref23.mk (imax 0 (imin a0 3)) (imax 1 (imin a1 4)) 1 0 false (Packet.mk 0 0 0 0 (Command.mk 0 0 0 0 (Point.mk 0 0) (A4.mk (Field.mk 0 ByteArray.empty) (Field.mk 0 ByteArray.empty) (Field.mk 0 ByteArray.empty) (Field.mk 0 ByteArray.empty)) (Field.mk 0 ByteArray.empty) 0 0 (Rect.mk 0 0 0 0)) 0 0 (Note.mk 0 0 ([] : List Thing) ([] : List Hand) ([] : List Thing) ([] : List Command)) (Frame.mk 0 0 0 0 0 ([] : List Event)) 0 0) 0 0 r1)
theorem F32_ok (n : Nat) (a0 a1 : Int) : ∀ r, F32 n a0 a1 = some r → D 32 [.one (li .i64 a0), .one (li .i64 a1)] [] = some (F32_e r) := by
 refine zan (D := D) (n := n + 8) (nt := 20) (rs := pc32_r) (c := p32c9) (L := [(0, qj a0), (1, qj a1)]) (M := []) (k := 0) rfl rfl rfl rfl rfl rfl rfl ?_
 unfold F32
 refine Sim.su 1 [] (.su 4 [] (.su 4 [] (.sv 4 [] (.bn ⟨some 17, .gcall false false W8 [[], [], []] 14 [15, kk 1, 16], none, []⟩ (fun r1 => [(17, qp 300000 0)]) (fun r1 => [(300000, some (.cells (w13 r1))), (300001, some (.arr 58 Event.cod.sz 0 (r1.Log).length (zaa Event.cod r1.Log))), (300002, some (.arr 32 Frame.cod.sz 0 (r1.Wait).length (zaa Frame.cod r1.Wait)))]) (fun r1 hr => pe (zar (ks := []) (rks := []) (new := [300000, 300001, 300002]) (ARGS := [qj (imax 0 (imin a0 3)), qj 1, qj (imax 1 (imin a1 4))]) (args1 := [qj (imax 0 (imin a0 3)), qj 1, qj (imax 1 (imin a1 4))]) (args2 := [qj (imax 0 (imin a0 3)), qj 1, qj (imax 1 (imin a1 4))]) (os := []) (os' := [.cells (w4 r1), .arr 58 Event.cod.sz 0 (r1.Log).length (zaa Event.cod r1.Log), .arr 32 Frame.cod.sz 0 (r1.Wait).length (zaa Frame.cod r1.Wait)]) (os1 := [.cells (w4 r1), .arr 58 Event.cod.sz 0 (r1.Log).length (zaa Event.cod r1.Log), .arr 32 Frame.cod.sz 0 (r1.Wait).length (zaa Frame.cod r1.Wait)]) (res := qp 1000000 0) (res1 := qp 1000000 0) (r := qp 300000 0) (N := [(300000, some (.cells (w13 r1))), (300001, some (.arr 58 Event.cod.sz 0 (r1.Log).length (zaa Event.cod r1.Log))), (300002, some (.arr 32 Frame.cod.sz 0 (r1.Wait).length (zaa Frame.cod r1.Wait)))]) (by kernel_rfl) (zax (zak (by kernel_rfl) (zak (by kernel_rfl) (zak (by kernel_rfl) (zas))))) (by kernel_rfl) (by kernel_rfl) (by kernel_rfl) (by kernel_rfl) (F14_ok _ _ _ _ _ hr) (by kernel_rfl) (by kernel_rfl) (by kernel_rfl) rfl (by kernel_rfl) (by kernel_rfl) (by kernel_rfl))) (fun r1 => ?_)))))
 exact SimI.ru 3 [(19, some (.cells [lj (imax 0 (imin a0 3)), lj (imax 1 (imin a1 4)), lj 1, lj 0, lb false, lj 0, lj 0, lj 0, lj 0, lj 0, lj 0, lj 0, lj 0, lj 0, lj 0, lj 0, ls be, lj 0, ls be, lj 0, ls be, lj 0, ls be, lj 0, ls be, lj 0, lj 0, lj 0, lj 0, lj 0, lj 0, lj 0, lj 0, lj 0, lj 0, vw Thing.cod ([] : List Thing), vw Hand.cod ([] : List Hand), vw Thing.cod ([] : List Thing), vw Command.cod ([] : List Command), lj 0, lj 0, lj 0, lj 0, lj 0, vw Event.cod ([] : List Event), lj 0, lj 0, lj 0, lj 0, .ptr 300000 0]))] (.thenN (.ret .fn))
def F66_e : Bool → PV × List Ob := fun r => (.one (lb r), [])
def F66 (n : Nat) (a0 a1 a2 : Int) : Option Bool :=
 if decide (a1 ≤ a0) then
  some (decide (a0 ≤ a2))
 else
  some false
theorem F66_ok (n : Nat) (a0 a1 a2 : Int) : ∀ r, F66 n a0 a1 a2 = some r → D 66 [.one (li .i64 a0), .one (li .i64 a1), .one (li .i64 a2)] [] = some (F66_e r) := by
 refine zan (D := D) (n := n + 8) (nt := 15) (rs := pc66_r) (c := p66c5) (L := [(0, qj a0), (1, qj a1), (2, qj a2)]) (M := []) (k := 0) rfl rfl rfl rfl rfl rfl rfl ?_
 unfold F66
 refine Sim.su 1 [] (.sv 4 [] (.sp 10 _ ?_ ?_))
 ·exact SimI.ru 5 [] (.thenN (.ret .fn))
 ·exact SimI.ru 5 [] (.thenN (.ret .fn))
def F67_e : Command → PV × List Ob := fun r => (.agg (Command.cells r), [])
def F67 (n : Nat) (a0 : Command) : Option Command :=
 if a0.Kind == 1 then
  some (Command.mk a0.Kind 0 0 0 a0.At a0.F (Field.mk 0 ByteArray.empty) a0.Client a0.Session (Rect.mk 0 0 0 0))
 else
  if a0.Kind == 2 then
   some (Command.mk a0.Kind a0.ID 0 0 a0.At (A4.mk (Field.mk 0 ByteArray.empty) (Field.mk 0 ByteArray.empty) (Field.mk 0 ByteArray.empty) (Field.mk 0 ByteArray.empty)) (Field.mk 0 ByteArray.empty) a0.Client a0.Session (Rect.mk 0 0 0 0))
  else
   if a0.Kind == 3 then
    some (Command.mk a0.Kind a0.ID a0.Which 0 (Point.mk 0 0) (A4.mk (Field.mk 0 ByteArray.empty) (Field.mk 0 ByteArray.empty) (Field.mk 0 ByteArray.empty) (Field.mk 0 ByteArray.empty)) a0.Value a0.Client a0.Session (Rect.mk 0 0 0 0))
   else
    if a0.Kind == 4 then
     some (Command.mk a0.Kind a0.ID 0 0 (Point.mk 0 0) (A4.mk (Field.mk 0 ByteArray.empty) (Field.mk 0 ByteArray.empty) (Field.mk 0 ByteArray.empty) (Field.mk 0 ByteArray.empty)) (Field.mk 0 ByteArray.empty) a0.Client a0.Session (Rect.mk 0 0 0 0))
    else
     if a0.Kind == 5 then
      some (Command.mk a0.Kind 0 a0.Which a0.To (Point.mk 0 0) (A4.mk (Field.mk 0 ByteArray.empty) (Field.mk 0 ByteArray.empty) (Field.mk 0 ByteArray.empty) (Field.mk 0 ByteArray.empty)) (Field.mk 0 ByteArray.empty) a0.Client a0.Session (Rect.mk 0 0 0 0))
     else
      if a0.Kind == 6 then
       if a0.Kind == 6 then
        some (Command.mk a0.Kind 0 0 0 (Point.mk 0 0) (A4.mk (Field.mk 0 ByteArray.empty) (Field.mk 0 ByteArray.empty) (Field.mk 0 ByteArray.empty) (Field.mk 0 ByteArray.empty)) (Field.mk 0 ByteArray.empty) a0.Client a0.Session a0.Rect)
       else
        some (Command.mk a0.Kind 0 0 0 (Point.mk 0 0) (A4.mk (Field.mk 0 ByteArray.empty) (Field.mk 0 ByteArray.empty) (Field.mk 0 ByteArray.empty) (Field.mk 0 ByteArray.empty)) (Field.mk 0 ByteArray.empty) a0.Client a0.Session (Rect.mk 0 0 0 0))
      else
       if a0.Kind == 7 then
        some (Command.mk a0.Kind 0 0 0 (Point.mk 0 0) (A4.mk (Field.mk 0 ByteArray.empty) (Field.mk 0 ByteArray.empty) (Field.mk 0 ByteArray.empty) (Field.mk 0 ByteArray.empty)) (Field.mk 0 ByteArray.empty) a0.Client a0.Session a0.Rect)
       else
        some (Command.mk a0.Kind 0 0 0 (Point.mk 0 0) (A4.mk (Field.mk 0 ByteArray.empty) (Field.mk 0 ByteArray.empty) (Field.mk 0 ByteArray.empty) (Field.mk 0 ByteArray.empty)) (Field.mk 0 ByteArray.empty) a0.Client a0.Session (Rect.mk 0 0 0 0))
theorem F67_ok (n : Nat) (a0 : Command) : ∀ r, F67 n a0 = some r → D 67 [.agg (Command.cells a0)] [] = some (F67_e r) := by
 refine zan (D := D) (n := n + 8) (nt := 60) (rs := pc67_r) (c := p67c40) (L := [(0, .agg (Command.cells a0))]) (M := []) (k := 0) rfl rfl rfl rfl rfl rfl rfl ?_
 unfold F67
 refine Sim.su 2 [(2, some (.cells W21)), (1, some (.cells (Command.cells a0)))] (.su 9 [(3, some (.cells (w1 a0))), (3, some (.cells W21))] (.seq (.su 2 [] (.block (.su 2 [] (.cd _ ?_ ?_))))))
 ·exact Sim.region0 (.ru 8 [(3, some (.cells (W16 a0))), (3, some (.cells (w25 a0)))] (.blockN (.thenN (.su 2 [(2, some (.cells (W16 a0)))] (.ret .fn)))))
 ·refine Sim.su 2 [] (.cd _ ?_ ?_)
  ·exact Sim.region0 (.ru 8 [(3, some (.cells (w7 a0))), (3, some (.cells (w3 a0)))] (.blockN (.thenN (.su 2 [(2, some (.cells (w7 a0)))] (.ret .fn)))))
  ·refine Sim.su 2 [] (.cd _ ?_ ?_)
   ·exact Sim.region0 (.ru 12 [(3, some (.cells (w8 a0))), (3, some (.cells (w26 a0))), (3, some (.cells (w3 a0)))] (.blockN (.thenN (.su 2 [(2, some (.cells (w8 a0)))] (.ret .fn)))))
   ·refine Sim.su 2 [] (.cd _ ?_ ?_)
    ·exact Sim.region0 (.ru 4 [(3, some (.cells (w3 a0)))] (.blockN (.thenN (.su 2 [(2, some (.cells (w3 a0)))] (.ret .fn)))))
    ·refine Sim.su 2 [] (.cd _ ?_ ?_)
     ·exact Sim.region0 (.rd 8 (w27 a0) [(3, some (.cells (w9 a0))), (3, some (.cells (w28 a0)))] (.blockN (.thenN (.su 2 [(2, some (.cells (w9 a0)))] (.ret .fn)))))
     ·refine Sim.seq (.su 2 [] (.cd _ ?_ ?_))
      ·refine Sim.skip (.thenN (.cd _ ?_ ?_))
       ·exact Sim.region0 (.rd 4 (w12 a0) [(3, some (.cells (w2 a0)))] (.blockN (.thenN (.su 2 [(2, some (.cells (w2 a0)))] (.ret .fn)))))
       ·exact Sim.skip (.blockN (.thenN (.su 2 [(2, some (.cells (w1 a0)))] (.ret .fn))))
      ·refine Sim.region0 (.ru 2 [] (.thenN (.cd _ ?_ ?_)))
       ·exact Sim.region0 (.rd 4 (w12 a0) [(3, some (.cells (w2 a0)))] (.blockN (.thenN (.su 2 [(2, some (.cells (w2 a0)))] (.ret .fn)))))
       ·exact Sim.skip (.blockN (.thenN (.su 2 [(2, some (.cells (w1 a0)))] (.ret .fn))))
def F68_e : Bool → PV × List Ob := fun r => (.one (lb r), [])
def F68 (n : Nat) (a0 : Point) : Option Bool :=
 (F66 n a0.X (-1000) 1000).bind fun (r1 : Bool) =>
 if r1 then
  (F66 n a0.Y (-1000) 1000).bind fun (r2 : Bool) =>
  some r2
 else
  some false
theorem F68_ok (n : Nat) (a0 : Point) : ∀ r, F68 n a0 = some r → D 68 [.agg [li .i64 a0.X, li .i64 a0.Y]] [] = some (F68_e r) := by
 refine zan (D := D) (n := n + 8) (nt := 11) (rs := pc68_r) (c := p68c5) (L := [(0, .agg [lj a0.X, lj a0.Y])]) (M := []) (k := 0) rfl rfl rfl rfl rfl rfl rfl ?_
 unfold F68
 refine Sim.su 2 [(1, some (.cells [lj a0.X, lj a0.Y]))] (.sv 2 [] (.cl 5 true [[], [], []] 66 [4, Operand.const (Value.int IntKind.i64 (-1000)), kk 1000] none (fun r1 => qb r1) [qj a0.X, qj (-1000), qj 1000] (F66_ok _ _ _ _) (fun r1 => ?_)))
 refine SimI.rv 1 [] (.sp 6 _ ?_ ?_)
 ·refine SimI.rv 2 [] (.cl 9 true [[], [], []] 66 [8, Operand.const (Value.int IntKind.i64 (-1000)), kk 1000] (some (6, true)) (fun r2 => qb r2) [qj a0.Y, qj (-1000), qj 1000] (F66_ok _ _ _ _) (fun r2 => ?_))
  exact SimI.ru 2 [] (.thenN (.ret .fn))
 ·exact SimI.ru 5 [] (.thenN (.ret .fn))
def F69_e : Bool → PV × List Ob := fun r => (.one (lb r), [])
def F69 (n : Nat) (a0 : Rect) : Option Bool :=
 (F68 n (Point.mk a0.X0 a0.Y0)).bind fun (r1 : Bool) =>
 if r1 then
  (F68 n (Point.mk a0.X1 a0.Y1)).bind fun (r2 : Bool) =>
  some r2
 else
  some false
theorem F69_ok (n : Nat) (a0 : Rect) : ∀ r, F69 n a0 = some r → D 69 [.agg (Rect.cells a0)] [] = some (F69_e r) := by
 refine zan (D := D) (n := n + 8) (nt := 17) (rs := pc69_r) (c := p69c5) (L := [(0, .agg (Rect.cells a0))]) (M := []) (k := 0) rfl rfl rfl rfl rfl rfl rfl ?_
 unfold F69
 refine Sim.su 2 [(1, some (.cells (Rect.cells a0)))] (.sv 5 [] (.cl 8 true [[]] 68 [7] none (fun r1 => qb r1) [.agg [lj a0.X0, lj a0.Y0]] (F68_ok _ _) (fun r1 => ?_)))
 refine SimI.rv 1 [] (.sp 9 _ ?_ ?_)
 ·refine SimI.rv 5 [] (.cl 15 true [[]] 68 [14] (some (9, true)) (fun r2 => qb r2) [.agg [lj a0.X1, lj a0.Y1]] (F68_ok _ _) (fun r2 => ?_))
  exact SimI.ru 2 [] (.thenN (.ret .fn))
 ·exact SimI.ru 8 [] (.thenN (.ret .fn))
def F70_e : Bool → PV × List Ob := fun r => (.one (lb r), [])
def F70 (n : Nat) (a0 : Field) : Option Bool :=
 if a0.N == 0 then
  some (decide ((a0.Text.size : Int) ≤ 12))
 else
  if a0.Text.toList == ByteArray.empty.toList then
   some (decide ((a0.Text.size : Int) ≤ 12))
  else
   some false
theorem zdk (n : Nat) (a0 : Field) : ∀ r, F70 n a0 = some r → D 70 [.agg [li .i64 a0.N, ls a0.Text]] [] = some (F70_e r) := by
 refine zan (D := D) (n := n + 8) (nt := 17) (rs := pc70_r) (c := p70c5) (L := [(0, .agg [lj a0.N, ls a0.Text])]) (M := []) (k := 0) rfl rfl rfl rfl rfl rfl rfl ?_
 unfold F70
 refine Sim.su 2 (W85 a0) (.sv 4 [] (.sp 6 _ ?_ ?_))
 ·exact SimI.ru 11 [] (.thenN (.ret .fn))
 ·refine SimI.rn 5 (w23 a0) [] (.sp 11 _ ?_ ?_)
  ·exact SimI.rd 6 (w24 a0) [] (.thenN (.ret .fn))
  ·exact SimI.ru 6 [] (.thenN (.ret .fn))
def F53_e : Bool → PV × List Ob := fun r => (.one (lb r), [])
def F53_u24 (n : Nat) (b23 : Bool) : Option Bool :=
  some b23
theorem F53_u24_ok (n : Nat) (a0 : Command) (b23 : Bool) : SimL Try.prog D (n + 8) (n + 4) p53c13 (W73 b23) (W6 a0) (F53_u24 n b23) (QB 0 (QT Try.prog D (n + 8) p53c19 (QF false pc53_r 0 F53_e))) := by
  unfold F53_u24
  exact SimL.succ (.seq (.seq (.rg (W73 b23) (W6 a0) (.ru 2 [] (.thenN (.cf (.exit (.thenX (.loopX (.blockX (.thenN (.su 2 [] (.ret .fn)))))))))))))
def F53_u21 (n : Nat) (a0 : Command) (b20 : Bool) : Option Bool :=
  if b20 then
   (F70 n a0.F.a3).bind fun (r22 : Bool) =>
   F53_u24 n r22
  else
   F53_u24 n false
theorem F53_u21_ok (n : Nat) (a0 : Command) (b20 : Bool) : SimL Try.prog D (n + 8) (n + 5) p53c13 (W74 b20) (W6 a0) (F53_u21 n a0 b20) (QB 0 (QT Try.prog D (n + 8) p53c19 (QF false pc53_r 0 F53_e))) := by
  unfold F53_u21
  refine SimL.succ (.seq (.seq (.rg (W74 b20) (W6 a0) (.ru 2 [] (.thenN (.ct (.skip (.thenN (.seq (.block (.region0 (.rv 2 [] (.sp 59 _ ?_ ?_)))))))))))))
  ·refine SimI.rv 4 [] (.cl 64 true [[]] 70 [63] (some (59, true)) (fun r22 => qb r22) [.agg [lj a0.F.a3.N, ls a0.F.a3.Text]] (zdk _ _) (fun r22 => ?_))
   refine SimI.ru 2 [] (.blockN (.thenN (.region0 (.ru 3 [] (.loopN (.pr [1, 3, 4] [1] [] (W73 r22) (W6 a0) ?_))))))
   exact F53_u24_ok n a0 r22
  ·refine SimI.ru 7 [] (.blockN (.thenN (.region0 (.ru 3 [] (.loopN (.pr [1, 3, 4] [1] [] [(1, qp 1 0), (3, qb false), (4, qj 4)] (W6 a0) ?_))))))
   exact F53_u24_ok n a0 false
def F53_u18 (n : Nat) (a0 : Command) (b17 : Bool) : Option Bool :=
  if b17 then
   (F70 n a0.F.a2).bind fun (r19 : Bool) =>
   F53_u21 n a0 r19
  else
   F53_u21 n a0 false
theorem F53_u18_ok (n : Nat) (a0 : Command) (b17 : Bool) : SimL Try.prog D (n + 8) (n + 6) p53c13 (W75 b17) (W6 a0) (F53_u18 n a0 b17) (QB 0 (QT Try.prog D (n + 8) p53c19 (QF false pc53_r 0 F53_e))) := by
  unfold F53_u18
  refine SimL.succ (.seq (.seq (.rg (W75 b17) (W6 a0) (.ru 2 [] (.thenN (.ct (.skip (.thenN (.seq (.block (.region0 (.rv 2 [] (.sp 59 _ ?_ ?_)))))))))))))
  ·refine SimI.rv 4 [] (.cl 64 true [[]] 70 [63] (some (59, true)) (fun r19 => qb r19) [.agg [lj a0.F.a2.N, ls a0.F.a2.Text]] (zdk _ _) (fun r19 => ?_))
   refine SimI.ru 2 [] (.blockN (.thenN (.region0 (.ru 3 [] (.loopN (.pr [1, 3, 4] [1] [] (W74 r19) (W6 a0) ?_))))))
   exact F53_u21_ok n a0 r19
  ·refine SimI.ru 7 [] (.blockN (.thenN (.region0 (.ru 3 [] (.loopN (.pr [1, 3, 4] [1] [] [(1, qp 1 0), (3, qb false), (4, qj 3)] (W6 a0) ?_))))))
   exact F53_u21_ok n a0 false
def F53_u15 (n : Nat) (a0 : Command) (b14 : Bool) : Option Bool :=
  if b14 then
   (F70 n a0.F.a1).bind fun (r16 : Bool) =>
   F53_u18 n a0 r16
  else
   F53_u18 n a0 false
theorem F53_u15_ok (n : Nat) (a0 : Command) (b14 : Bool) : SimL Try.prog D (n + 8) (n + 7) p53c13 (W76 b14) (W6 a0) (F53_u15 n a0 b14) (QB 0 (QT Try.prog D (n + 8) p53c19 (QF false pc53_r 0 F53_e))) := by
  unfold F53_u15
  refine SimL.succ (.seq (.seq (.rg (W76 b14) (W6 a0) (.ru 2 [] (.thenN (.ct (.skip (.thenN (.seq (.block (.region0 (.rv 2 [] (.sp 59 _ ?_ ?_)))))))))))))
  ·refine SimI.rv 4 [] (.cl 64 true [[]] 70 [63] (some (59, true)) (fun r16 => qb r16) [.agg [lj a0.F.a1.N, ls a0.F.a1.Text]] (zdk _ _) (fun r16 => ?_))
   refine SimI.ru 2 [] (.blockN (.thenN (.region0 (.ru 3 [] (.loopN (.pr [1, 3, 4] [1] [] (W75 r16) (W6 a0) ?_))))))
   exact F53_u18_ok n a0 r16
  ·refine SimI.ru 7 [] (.blockN (.thenN (.region0 (.ru 3 [] (.loopN (.pr [1, 3, 4] [1] [] [(1, qp 1 0), (3, qb false), (4, qj 2)] (W6 a0) ?_))))))
   exact F53_u18_ok n a0 false
def zbp (n : Nat) (a0 : Command) (b11 : Bool) : Option Bool :=
  if b11 then
   (F70 n a0.F.a0).bind fun (r13 : Bool) =>
   F53_u15 n a0 r13
  else
   F53_u15 n a0 false
theorem zbb (n : Nat) (a0 : Command) (b11 : Bool) : Sim Try.prog D (n + 8) p53c20 [(1, qp 1 0), (3, qb b11)] (W6 a0) (zbp n a0 b11) (QF false pc53_r 0 F53_e) := by
  unfold zbp
  refine Sim.seq (.seq (.rs (.ru 1 [] (.thenN (.block (.loop (.succ (.seq (.seq (.rg [(1, qp 1 0), (3, qb b11), (4, qj 0)] (W6 a0) (.ru 2 [] (.thenN (.ct (.skip (.thenN (.seq (.block (.region0 (.rv 2 [] (.sp 59 _ ?_ ?_))))))))))))))))))))
  ·refine SimI.rv 4 [] (.cl 64 true [[]] 70 [63] (some (59, true)) (fun r13 => qb r13) [.agg [lj a0.F.a0.N, ls a0.F.a0.Text]] (zdk _ _) (fun r13 => ?_))
   refine SimI.ru 2 [] (.blockN (.thenN (.region0 (.ru 3 [] (.loopN (.pr [1, 3, 4] [1] [] (W76 r13) (W6 a0) ?_))))))
   exact F53_u15_ok n a0 r13
  ·refine SimI.ru 7 [] (.blockN (.thenN (.region0 (.ru 3 [] (.loopN (.pr [1, 3, 4] [1] [] [(1, qp 1 0), (3, qb false), (4, qj 1)] (W6 a0) ?_))))))
   exact F53_u15_ok n a0 false
def F53 (n : Nat) (a0 : Command) : Option Bool :=
 (F66 n a0.Kind 1 8).bind fun (r1 : Bool) =>
 if r1 then
  (F66 n a0.Client 0 3).bind fun (r2 : Bool) =>
  if r2 then
   (F66 n a0.Session 0 1000000).bind fun (r3 : Bool) =>
   if r3 then
    (F67 n a0).bind fun (r4 : Command) =>
    if Command.eqb a0 r4 then
     (F68 n a0.At).bind fun (r5 : Bool) =>
     if r5 then
      (F69 n a0.Rect).bind fun (r6 : Bool) =>
      if r6 then
       (F66 n a0.ID 0 1000000).bind fun (r7 : Bool) =>
       if r7 then
        (F66 n a0.Which (-1) 100).bind fun (r8 : Bool) =>
        if r8 then
         (F66 n a0.To (-1) 100).bind fun (r9 : Bool) =>
         if r9 then
          (F70 n a0.Value).bind fun (r10 : Bool) =>
          zbp n a0 r10
         else
          zbp n a0 false
        else
         zbp n a0 false
       else
        zbp n a0 false
      else
       zbp n a0 false
     else
      zbp n a0 false
    else
     zbp n a0 false
   else
    zbp n a0 false
  else
   zbp n a0 false
 else
  zbp n a0 false
theorem F53_ok (n : Nat) (a0 : Command) : ∀ r, F53 n a0 = some r → D 53 [.agg (Command.cells a0)] [] = some (F53_e r) := by
 refine zan (D := D) (n := n + 8) (nt := 67) (rs := pc53_r) (c := p53c22) (L := [(0, .agg (Command.cells a0))]) (M := []) (k := 0) rfl rfl rfl rfl rfl rfl rfl ?_
 unfold F53
 refine Sim.su 2 (W6 a0) (.sv 2 [] (.cm 7 false [[], [], []] 66 [6, kk 1, kk 8] none [(6, .imm)] (F66_ok _ _ _ _) (fun r1 => ?_)))
 refine SimI.rv 1 [] (.sp 8 _ ?_ ?_)
 ·refine SimI.rv 2 [] (.cm 11 false [[], [], []] 66 [10, kk 0, kk 3] (some (8, true)) [(10, .imm)] (F66_ok _ _ _ _) (fun r2 => ?_))
  refine SimI.rv 2 [] (.sp 13 _ ?_ ?_)
  ·refine SimI.rv 2 [] (.cm 16 false [[], [], []] 66 [15, kk 0, kk 1000000] (some (13, true)) [(15, .imm)] (F66_ok _ _ _ _) (fun r3 => ?_))
   refine SimI.rv 2 [] (.sp 18 _ ?_ ?_)
   ·refine SimI.rv 2 [] (.cm 21 false [[]] 67 [20] (some (18, true)) [(20, .imm)] (F67_ok _ _) (fun r4 => ?_))
    refine SimI.se ⟨some 22, .prim (.bin .eql 63 false false) [19, 21], some (18, true), [(19, .imm), (21, .imm)]⟩ [(22, qb (Command.eqb a0 r4))] [] (pe (ep (zft a0 r4 _ _))) (.rv 2 [] (.sp 24 _ ?_ ?_))
    ·refine SimI.rv 2 [] (.cm 27 false [[]] 68 [26] (some (24, true)) [(26, .imm)] (F68_ok _ _) (fun r5 => ?_))
     refine SimI.rv 2 [] (.sp 29 _ ?_ ?_)
     ·refine SimI.rv 2 [] (.cm 32 false [[]] 69 [31] (some (29, true)) [(31, .imm)] (F69_ok _ _) (fun r6 => ?_))
      refine SimI.rv 2 [] (.sp 34 _ ?_ ?_)
      ·refine SimI.rv 2 [] (.cm 37 false [[], [], []] 66 [36, kk 0, kk 1000000] (some (34, true)) [(36, .imm)] (F66_ok _ _ _ _) (fun r7 => ?_))
       refine SimI.rv 2 [] (.sp 39 _ ?_ ?_)
       ·refine SimI.rv 2 [] (.cm 42 false [[], [], []] 66 [41, Operand.const (Value.int IntKind.i64 (-1)), kk 100] (some (39, true)) [(41, .imm)] (F66_ok _ _ _ _) (fun r8 => ?_))
        refine SimI.rv 2 [] (.sp 44 _ ?_ ?_)
        ·refine SimI.rv 2 [] (.cm 47 false [[], [], []] 66 [46, Operand.const (Value.int IntKind.i64 (-1)), kk 100] (some (44, true)) [(46, .imm)] (F66_ok _ _ _ _) (fun r9 => ?_))
         refine SimI.rv 2 [] (.sp 49 _ ?_ ?_)
         ·refine SimI.rv 2 [] (.cm 52 false [[]] 70 [51] (some (49, true)) [(51, .imm)] (zdk _ _) (fun r10 => ?_))
          refine SimI.ru 2 [] (.thenN (.pr [1, 3] [1] [] [(1, qp 1 0), (3, qb r10)] (W6 a0) ?_))
          exact zbb n a0 r10
         ·refine SimI.ru 5 [] (.thenN (.pr [1, 3] [1] [] W56 (W6 a0) ?_))
          exact zbb n a0 false
        ·refine SimI.ru 10 [] (.thenN (.pr [1, 3] [1] [] W56 (W6 a0) ?_))
         exact zbb n a0 false
       ·refine SimI.ru 15 [] (.thenN (.pr [1, 3] [1] [] W56 (W6 a0) ?_))
        exact zbb n a0 false
      ·refine SimI.ru 20 [] (.thenN (.pr [1, 3] [1] [] W56 (W6 a0) ?_))
       exact zbb n a0 false
     ·refine SimI.ru 25 [] (.thenN (.pr [1, 3] [1] [] W56 (W6 a0) ?_))
      exact zbb n a0 false
    ·refine SimI.ru 30 [] (.thenN (.pr [1, 3] [1] [] W56 (W6 a0) ?_))
     exact zbb n a0 false
   ·refine SimI.ru 36 [] (.thenN (.pr [1, 3] [1] [] W56 (W6 a0) ?_))
    exact zbb n a0 false
  ·refine SimI.ru 41 [] (.thenN (.pr [1, 3] [1] [] W56 (W6 a0) ?_))
   exact zbb n a0 false
 ·refine SimI.ru 46 [] (.thenN (.pr [1, 3] [1] [] W56 (W6 a0) ?_))
  exact zbb n a0 false
def F33_e : (Packet × Int × Client_vedetteref23) → PV × List Ob := fun r => (.tup [.agg (zad r.1 []), .one (li .i64 r.2.1)], [.cells (li .i64 r.2.2.Me :: li .i64 r.2.2.N :: li .i64 r.2.2.Session :: li .i64 r.2.2.Seq :: lb r.2.2.Busy :: zad r.2.2.Ask [li .i64 r.2.2.E, li .i64 r.2.2.ID, .ptr 1000001 0]), .cells [li .i64 r.2.2.V.Client, li .i64 r.2.2.V.Session, li .i64 r.2.2.V.N, li .i64 r.2.2.V.Start, li .i64 r.2.2.V.Beat, vw Thing.cod r.2.2.V.L, .osl 1000002 1 0 (r.2.2.V.Log).length, .osl 1000003 1 0 (r.2.2.V.Wait).length], .arr 58 Event.cod.sz 1 (r.2.2.V.Log).length (zaa Event.cod r.2.2.V.Log), .arr 32 Frame.cod.sz 1 (r.2.2.V.Wait).length (zaa Frame.cod r.2.2.V.Wait)])
def F33 (n : Nat) (a0 : Client_vedetteref23) (a1 : Int) (a2 : Command) : Option (Packet × Int × Client_vedetteref23) :=
 if a0.Busy then
  some ((Packet.mk 0 0 0 0 (Command.mk 0 0 0 0 (Point.mk 0 0) (A4.mk (Field.mk 0 ByteArray.empty) (Field.mk 0 ByteArray.empty) (Field.mk 0 ByteArray.empty) (Field.mk 0 ByteArray.empty)) (Field.mk 0 ByteArray.empty) 0 0 (Rect.mk 0 0 0 0)) 0 0 (Note.mk 0 0 ([] : List Thing) ([] : List Hand) ([] : List Thing) ([] : List Command)) (Frame.mk 0 0 0 0 0 ([] : List Event)) 0 0), 28, a0)
 else
  if decide (a1 < 0) then
   some ((Packet.mk 0 0 0 0 (Command.mk 0 0 0 0 (Point.mk 0 0) (A4.mk (Field.mk 0 ByteArray.empty) (Field.mk 0 ByteArray.empty) (Field.mk 0 ByteArray.empty) (Field.mk 0 ByteArray.empty)) (Field.mk 0 ByteArray.empty) 0 0 (Rect.mk 0 0 0 0)) 0 0 (Note.mk 0 0 ([] : List Thing) ([] : List Hand) ([] : List Thing) ([] : List Command)) (Frame.mk 0 0 0 0 0 ([] : List Event)) 0 0), 19, a0)
  else
   if decide (a0.N ≤ a1) then
    some ((Packet.mk 0 0 0 0 (Command.mk 0 0 0 0 (Point.mk 0 0) (A4.mk (Field.mk 0 ByteArray.empty) (Field.mk 0 ByteArray.empty) (Field.mk 0 ByteArray.empty) (Field.mk 0 ByteArray.empty)) (Field.mk 0 ByteArray.empty) 0 0 (Rect.mk 0 0 0 0)) 0 0 (Note.mk 0 0 ([] : List Thing) ([] : List Hand) ([] : List Thing) ([] : List Command)) (Frame.mk 0 0 0 0 0 ([] : List Event)) 0 0), 19, a0)
   else
    (F53 n (Command.mk a2.Kind a2.ID a2.Which a2.To a2.At a2.F a2.Value a0.Me a0.Session a2.Rect)).bind fun (r1 : Bool) =>
    if !(r1) then
     some ((Packet.mk 0 0 0 0 (Command.mk 0 0 0 0 (Point.mk 0 0) (A4.mk (Field.mk 0 ByteArray.empty) (Field.mk 0 ByteArray.empty) (Field.mk 0 ByteArray.empty) (Field.mk 0 ByteArray.empty)) (Field.mk 0 ByteArray.empty) 0 0 (Rect.mk 0 0 0 0)) 0 0 (Note.mk 0 0 ([] : List Thing) ([] : List Hand) ([] : List Thing) ([] : List Command)) (Frame.mk 0 0 0 0 0 ([] : List Event)) 0 0), 11, a0)
    else
     some ((Packet.mk (IntKind.wrap .i64 (100 + a0.Me)) a1 1 (IntKind.wrap .i64 (a0.Seq + 1)) (Command.mk a2.Kind a2.ID a2.Which a2.To a2.At a2.F a2.Value a0.Me a0.Session a2.Rect) 0 0 (Note.mk 0 0 ([] : List Thing) ([] : List Hand) ([] : List Thing) ([] : List Command)) (Frame.mk 0 0 0 0 0 ([] : List Event)) a0.Session 0), 0, (Client_vedetteref23.mk a0.Me a0.N a0.Session (IntKind.wrap .i64 (a0.Seq + 1)) true (Packet.mk (IntKind.wrap .i64 (100 + a0.Me)) a1 1 (IntKind.wrap .i64 (a0.Seq + 1)) (Command.mk a2.Kind a2.ID a2.Which a2.To a2.At a2.F a2.Value a0.Me a0.Session a2.Rect) 0 0 (Note.mk 0 0 ([] : List Thing) ([] : List Hand) ([] : List Thing) ([] : List Command)) (Frame.mk 0 0 0 0 0 ([] : List Event)) a0.Session 0) a0.E a0.ID a0.V))
theorem F33_ok (n : Nat) (a0 : Client_vedetteref23) (a1 : Int) (a2 : Command) : ∀ r, F33 n a0 a1 a2 = some r → D 33 [.one (.ptr 1000000 0), .one (li .i64 a1), .agg (Command.cells a2)] [.cells (li .i64 a0.Me :: li .i64 a0.N :: li .i64 a0.Session :: li .i64 a0.Seq :: lb a0.Busy :: zad a0.Ask [li .i64 a0.E, li .i64 a0.ID, .ptr 1000001 0]), .cells [li .i64 a0.V.Client, li .i64 a0.V.Session, li .i64 a0.V.N, li .i64 a0.V.Start, li .i64 a0.V.Beat, vw Thing.cod a0.V.L, .osl 1000002 0 0 (a0.V.Log).length, .osl 1000003 0 0 (a0.V.Wait).length], .arr 58 Event.cod.sz 0 (a0.V.Log).length (zaa Event.cod a0.V.Log), .arr 32 Frame.cod.sz 0 (a0.V.Wait).length (zaa Frame.cod a0.V.Wait)] = some (F33_e r) := by
 refine zan (D := D) (n := n + 8) (nt := 77) (rs := pc33_r) (c := p33c36) (L := [(0, qp 1000000 0), (1, qj a1), (2, .agg (Command.cells a2))]) (M := [(1000000, some (.cells (lj a0.Me :: lj a0.N :: lj a0.Session :: lj a0.Seq :: lb a0.Busy :: zad a0.Ask (W46 a0)))), (1000001, some (.cells (w11 a0))), (1000002, some (.arr 58 Event.cod.sz 0 (a0.V.Log).length (zaa Event.cod a0.V.Log))), (1000003, some (.arr 32 Frame.cod.sz 0 (a0.V.Wait).length (zaa Frame.cod a0.V.Wait)))]) (k := 4) rfl rfl rfl rfl rfl rfl rfl ?_
 unfold F33
 refine Sim.su 3 [(6, some (.cells W0)), (5, some (.cells (Command.cells a2)))] (.su 3 [(8, some (.cells (Command.cells a2))), (8, some (.cells W21))] (.su 12 [(8, some (.cells (W53 a2 a0))), (8, some (.cells [lj a2.Kind, lj a2.ID, lj a2.Which, lj a2.To, lj a2.At.X, lj a2.At.Y, lj a2.F.a0.N, ls a2.F.a0.Text, lj a2.F.a1.N, ls a2.F.a1.Text, lj a2.F.a2.N, ls a2.F.a2.Text, lj a2.F.a3.N, ls a2.F.a3.Text, lj a2.Value.N, ls a2.Value.Text, lj a0.Me, lj a2.Session, lj a2.Rect.X0, lj a2.Rect.Y0, lj a2.Rect.X1, lj a2.Rect.Y1]))] (.seq (.block (.su 5 [] (.cd _ ?_ ?_))))))
 ·exact Sim.su 3 [(6, some (.cells W0))] (.ret (.blockR (.thenR .fn)))
 ·refine Sim.sv 3 [] (.sp 29 _ ?_ ?_)
  ·exact SimI.ru 8 [] (.thenN (.ct (.su 3 [(6, some (.cells W0))] (.ret (.blockR (.thenR .fn))))))
  ·refine SimI.ru 8 [] (.thenN (.cd _ ?_ ?_))
   ·exact Sim.su 3 [(6, some (.cells W0))] (.ret (.blockR (.thenR .fn)))
   ·refine Sim.sv 1 [] (.cl 40 true [[]] 53 [39] none (fun r1 => qb r1) [.agg (W53 a2 a0)] (F53_ok _ _) (fun r1 => ?_))
    refine SimI.ru 2 [] (.thenN (.cd _ ?_ ?_))
    ·exact Sim.su 3 [(6, some (.cells W0))] (.ret (.blockR (.thenR .fn)))
    ·exact Sim.skip (.blockN (.thenN (.su 9 [(1000000, some (.cells (lj a0.Me :: lj a0.N :: lj a0.Session :: lj (iw .i64 (a0.Seq + 1)) :: lb a0.Busy :: zad a0.Ask (W46 a0))))] (.su 4 [(1000000, some (.cells (lj a0.Me :: lj a0.N :: lj a0.Session :: lj (iw .i64 (a0.Seq + 1)) :: lb true :: zad a0.Ask (W46 a0))))] (.su 20 [(1000000, some (.cells [lj a0.Me, lj a0.N, lj a0.Session, lj (iw .i64 (a0.Seq + 1)), lb true, lj (iw .i64 (100 + a0.Me)), lj a1, lj 1, lj (iw .i64 (a0.Seq + 1)), lj a2.Kind, lj a2.ID, lj a2.Which, lj a2.To, lj a2.At.X, lj a2.At.Y, lj a2.F.a0.N, ls a2.F.a0.Text, lj a2.F.a1.N, ls a2.F.a1.Text, lj a2.F.a2.N, ls a2.F.a2.Text, lj a2.F.a3.N, ls a2.F.a3.Text, lj a2.Value.N, ls a2.Value.Text, lj a0.Me, lj a0.Session, lj a2.Rect.X0, lj a2.Rect.Y0, lj a2.Rect.X1, lj a2.Rect.Y1, lj 0, lj 0, lj 0, lj 0, vw Thing.cod ([] : List Thing), vw Hand.cod ([] : List Hand), vw Thing.cod ([] : List Thing), vw Command.cod ([] : List Command), lj 0, lj 0, lj 0, lj 0, lj 0, vw Event.cod ([] : List Event), lj a0.Session, lj 0, lj a0.E, lj a0.ID, .ptr 1000001 0]))] (.su 6 [(6, some (.cells [lj (iw .i64 (100 + a0.Me)), lj a1, lj 1, lj (iw .i64 (a0.Seq + 1)), lj a2.Kind, lj a2.ID, lj a2.Which, lj a2.To, lj a2.At.X, lj a2.At.Y, lj a2.F.a0.N, ls a2.F.a0.Text, lj a2.F.a1.N, ls a2.F.a1.Text, lj a2.F.a2.N, ls a2.F.a2.Text, lj a2.F.a3.N, ls a2.F.a3.Text, lj a2.Value.N, ls a2.Value.Text, lj a0.Me, lj a0.Session, lj a2.Rect.X0, lj a2.Rect.Y0, lj a2.Rect.X1, lj a2.Rect.Y1, lj 0, lj 0, lj 0, lj 0, vw Thing.cod ([] : List Thing), vw Hand.cod ([] : List Hand), vw Thing.cod ([] : List Thing), vw Command.cod ([] : List Command), lj 0, lj 0, lj 0, lj 0, lj 0, vw Event.cod ([] : List Event), lj a0.Session, lj 0]))] (.ret .fn)))))))
def F34_e : Bool → PV × List Ob := fun r => (.one (lb r), [])
def F34 (n : Nat) (a0 a1 : Packet) : Option Bool :=
 if a0.From == a1.From then
  if a0.To == a1.To then
   if a0.Kind == a1.Kind then
    if a0.Seq == a1.Seq then
     if Command.eqb a0.C a1.C then
      if a0.Session == a1.Session then
       if a0.Beat == a1.Beat then
        if a0.E == a1.E then
         some (a0.ID == a1.ID)
        else
         some false
       else
        some false
      else
       some false
     else
      some false
    else
     some false
   else
    some false
  else
   some false
 else
  some false
theorem F34_ok (n : Nat) (a0 a1 : Packet) : ∀ r, F34 n a0 a1 = some r → D 34 [.agg (zad a0 []), .agg (zad a1 [])] [] = some (F34_e r) := by
 refine zan (D := D) (n := n + 8) (nt := 66) (rs := pc34_r) (c := p34c5) (L := [(0, .agg (zad a0 [])), (1, .agg (zad a1 []))]) (M := []) (k := 0) rfl rfl rfl rfl rfl rfl rfl ?_
 unfold F34
 refine Sim.su 3 [(3, some (.cells (zad a1 []))), (2, some (.cells (zad a0 [])))] (.sv 6 [] (.sp 10 _ ?_ ?_))
 ·refine SimI.rv 7 [] (.sp 17 _ ?_ ?_)
  ·refine SimI.rv 7 [] (.sp 24 _ ?_ ?_)
   ·refine SimI.rv 7 [] (.sp 31 _ ?_ ?_)
    ·refine SimI.rv 4 [] (.se ⟨some 36, .prim (.bin .eql 63 false false) [33, 35], some (31, true), []⟩ [(36, qb (Command.eqb a0.C a1.C))] [] (pe (ep (zft a0.C a1.C _ _))) (.rv 2 [] (.sp 38 _ ?_ ?_)))
     ·refine SimI.rv 7 [] (.sp 45 _ ?_ ?_)
      ·refine SimI.rv 7 [] (.sp 52 _ ?_ ?_)
       ·refine SimI.rv 7 [] (.sp 59 _ ?_ ?_)
        ·exact SimI.ru 7 [] (.thenN (.ret .fn))
        ·exact SimI.ru 7 [] (.thenN (.ret .fn))
       ·exact SimI.ru 14 [] (.thenN (.ret .fn))
      ·exact SimI.ru 21 [] (.thenN (.ret .fn))
     ·exact SimI.ru 28 [] (.thenN (.ret .fn))
    ·exact SimI.ru 35 [] (.thenN (.ret .fn))
   ·exact SimI.ru 42 [] (.thenN (.ret .fn))
  ·exact SimI.ru 49 [] (.thenN (.ret .fn))
 ·exact SimI.ru 56 [] (.thenN (.ret .fn))
def F47_e : (Int × View_vedetteref19) → PV × List Ob := fun r => (.one (li .i64 r.1), [.cells [li .i64 r.2.Client, li .i64 r.2.Session, li .i64 r.2.N, li .i64 r.2.Start, li .i64 r.2.Beat, vw Thing.cod r.2.L, .osl 1000001 1 0 (r.2.Log).length, .osl 1000002 1 0 (r.2.Wait).length], .arr 58 Event.cod.sz 1 (r.2.Log).length (zaa Event.cod r.2.Log), .arr 32 Frame.cod.sz 1 (r.2.Wait).length (zaa Frame.cod r.2.Wait)])
def F47_l4 (n : Nat) (a0 : View_vedetteref19) (a1 a2 : Int) : Nat → Int → Option (Int × View_vedetteref19)
 | 0, _ => none
 | m + 1, i3 =>
  if decide (i3 < ((a0.Wait).length : Int)) then
   (ix a0.Wait i3).bind fun (x5 : Frame) =>
   if x5.From == a1 then
    (ix a0.Wait i3).bind fun (x6 : Frame) =>
    if x6.Beat == a2 then
     some (i3, a0)
    else
     (F47_l4 n a0 a1 a2 m) (IntKind.wrap .i64 (i3 + 1))
   else
    (F47_l4 n a0 a1 a2 m) (IntKind.wrap .i64 (i3 + 1))
  else
   some ((-1), a0)
theorem F47_l4_ok (n : Nat) (a0 : View_vedetteref19) (a1 a2 : Int) : ∀ (m : Nat) (i3 : Int), SimL Try.prog D (n + 8) m p47c18 [(0, qp 1000000 0), (1, qj a1), (2, qj a2), (7, qj i3)] (W47 a0) (F47_l4 n a0 a1 a2 m i3) (QB 0 (QT Try.prog D (n + 8) p47c24 (QF false pc47_r 3 F47_e))) := by
 intro m_l4
 induction m_l4 with
 | zero => intro i3; exact SimL.zero'  rfl
 | succ m_l4 ih_l4 =>
  intro i3
  refine SimL.succ ?_
  unfold F47_l4
  refine Sim.seq (.seq (.rg [(0, qp 1000000 0), (1, qj a1), (2, qj a2), (7, qj i3)] [(1000000, some (.cells (w6 a0))), (1000001, some (.arr 58 Event.cod.sz 1 (a0.Log).length (zaa Event.cod a0.Log))), (1000002, some (.arr 32 Frame.cod.sz 1 (a0.Wait).length (zaa Frame.cod a0.Wait)))] (.ru 7 [] (.thenN (.cd _ ?_ ?_)))))
  ·refine Sim.skip (.thenN (.seq (.block (.sv 5 [] (.bindh (og := ix a0.Wait i3) ⟨some 22, .iaddrS 6 20 21, none, []⟩ (fun x5 => [(22, .one (.aptr 1000002 1 ((i3).toNat) 0))]) (fun x5 => []) (by kernel_rfl) (fun x5 hr => pe (zer (c := Frame.cod) (l := a0.Wait) (g := 1) (el := 32) (k := .i64) (n := i3) (by kernel_rfl) (by kernel_rfl) (by kernel_rfl) (by kernel_rfl) hr)) (fun x5 hx5 => ?_))))))
   refine SimI.rv 1 [] (.se ⟨some 24, .load false 1 23, none, []⟩ [(24, qj x5.From)] [] (pe (zef (c := Frame.cod) (a := x5) (l := a0.Wait) (key := 1000002) (g := 1) (el := 32) (off := 0) (i := (i3).toNat) (by kernel_rfl) (by kernel_rfl) (zec hx5).2.2.2 (by kernel_rfl))) (.rv 3 [] (.sp 27 _ ?_ ?_)))
   ·refine SimI.rv 5 [] (.bindh (og := ix a0.Wait i3) ⟨some 33, .iaddrS 6 31 32, some (27, true), []⟩ (fun x6 => [(33, .one (.aptr 1000002 1 ((i3).toNat) 0))]) (fun x6 => []) (by kernel_rfl) (fun x6 hr => pe (zer (c := Frame.cod) (l := a0.Wait) (g := 1) (el := 32) (k := .i64) (n := i3) (by kernel_rfl) (by kernel_rfl) (by kernel_rfl) (by kernel_rfl) hr)) (fun x6 hx6 => ?_))
    refine SimI.rv 1 [] (.se ⟨some 35, .load false 1 34, some (27, true), []⟩ [(35, qj x6.Beat)] [] (pe (zef (c := Frame.cod) (a := x6) (l := a0.Wait) (key := 1000002) (g := 1) (el := 32) (off := 4) (i := (i3).toNat) (by kernel_rfl) (by kernel_rfl) (zec hx6).2.2.2 (by kernel_rfl))) (.ru 3 [] (.thenN (.cd _ ?_ ?_))))
    ·exact Sim.su 2 [] (.ret (.blockR (.thenR (.loopR (.blockR (.thenR .fn))))))
    ·refine Sim.skip (.blockN (.thenN (.region0 (.ru 3 [] (.loopN (.pr [0, 1, 2, 7] W19 [] [(0, qp 1000000 0), (1, qj a1), (2, qj a2), (7, qj (iw .i64 (i3 + 1)))] [(1000000, some (.cells (w6 a0))), (1000001, some (.arr 58 Event.cod.sz 1 (a0.Log).length (zaa Event.cod a0.Log))), (1000002, some (.arr 32 Frame.cod.sz 1 (a0.Wait).length (zaa Frame.cod a0.Wait)))] ?_))))))
     exact ih_l4 (iw .i64 (i3 + 1))
   ·refine SimI.ru 11 [] (.thenN (.cf (.skip (.blockN (.thenN (.region0 (.ru 3 [] (.loopN (.pr [0, 1, 2, 7] W19 [] [(0, qp 1000000 0), (1, qj a1), (2, qj a2), (7, qj (iw .i64 (i3 + 1)))] [(1000000, some (.cells (w6 a0))), (1000001, some (.arr 58 Event.cod.sz 1 (a0.Log).length (zaa Event.cod a0.Log))), (1000002, some (.arr 32 Frame.cod.sz 1 (a0.Wait).length (zaa Frame.cod a0.Wait)))] ?_)))))))))
    exact ih_l4 (iw .i64 (i3 + 1))
  ·exact Sim.exit (.thenX (.loopX (.blockX (.thenN (.su 1 [] (.ret .fn))))))
def F47 (n : Nat) (a0 : View_vedetteref19) (a1 a2 : Int) : Option (Int × View_vedetteref19) :=
 F47_l4 n a0 a1 a2 (n + 8) 0
theorem F47_ok (n : Nat) (a0 : View_vedetteref19) (a1 a2 : Int) : ∀ r, F47 n a0 a1 a2 = some r → D 47 [.one (.ptr 1000000 0), .one (li .i64 a1), .one (li .i64 a2)] [.cells [li .i64 a0.Client, li .i64 a0.Session, li .i64 a0.N, li .i64 a0.Start, li .i64 a0.Beat, vw Thing.cod a0.L, .osl 1000001 0 0 (a0.Log).length, .osl 1000002 0 0 (a0.Wait).length], .arr 58 Event.cod.sz 0 (a0.Log).length (zaa Event.cod a0.Log), .arr 32 Frame.cod.sz 0 (a0.Wait).length (zaa Frame.cod a0.Wait)] = some (F47_e r) := by
 refine zan (D := D) (n := n + 8) (nt := 40) (rs := pc47_r) (c := p47c26) (L := [(0, qp 1000000 0), (1, qj a1), (2, qj a2)]) (M := [(1000000, some (.cells (w4 a0))), (1000001, some (.arr 58 Event.cod.sz 0 (a0.Log).length (zaa Event.cod a0.Log))), (1000002, some (.arr 32 Frame.cod.sz 0 (a0.Wait).length (zaa Frame.cod a0.Wait)))]) (k := 3) rfl rfl rfl rfl rfl rfl rfl ?_
 unfold F47
 refine Sim.su 1 [] (.seq (.su 1 [] (.block (.loop (.pr [0, 1, 2, 7] W19 [] [(0, qp 1000000 0), (1, qj a1), (2, qj a2), (7, qj 0)] [(1000000, some (.cells (w6 a0))), (1000001, some (.arr 58 Event.cod.sz 1 (a0.Log).length (zaa Event.cod a0.Log))), (1000002, some (.arr 32 Frame.cod.sz 1 (a0.Wait).length (zaa Frame.cod a0.Wait)))] ?_)))))
 exact F47_l4_ok n a0 a1 a2 (n + 8) 0
def F75_e : Bool → PV × List Ob := fun r => (.one (lb r), [])
def F75 (n : Nat) (a0 : Point) : Option Bool :=
 if decide ((0 : Int) ≤ a0.X) then
  if decide (a0.X < 64) then
   if decide ((0 : Int) ≤ a0.Y) then
    some (decide (a0.Y < 64))
   else
    some false
  else
   some false
 else
  some false
theorem F75_ok (n : Nat) (a0 : Point) : ∀ r, F75 n a0 = some r → D 75 [.agg [li .i64 a0.X, li .i64 a0.Y]] [] = some (F75_e r) := by
 refine zan (D := D) (n := n + 8) (nt := 21) (rs := pc75_r) (c := p75c5) (L := [(0, .agg [lj a0.X, lj a0.Y])]) (M := []) (k := 0) rfl rfl rfl rfl rfl rfl rfl ?_
 unfold F75
 refine Sim.su 2 [(1, some (.cells [lj a0.X, lj a0.Y]))] (.st 4 (w29 a0) [] (.sp 6 _ ?_ ?_))
 ·refine SimI.rn 5 (w30 a0) [] (.sp 11 _ ?_ ?_)
  ·refine SimI.rn 5 (w31 a0) [] (.sp 16 _ ?_ ?_)
   ·exact SimI.rd 5 (w32 a0) [] (.thenN (.ret .fn))
   ·exact SimI.ru 5 [] (.thenN (.ret .fn))
  ·exact SimI.ru 10 [] (.thenN (.ret .fn))
 ·exact SimI.ru 15 [] (.thenN (.ret .fn))
def F59_e : Bool → PV × List Ob := fun r => (.one (lb r), [])
def F59_u15 (n : Nat) (b14 : Bool) : Option Bool :=
  some b14
theorem F59_u15_ok (n : Nat) (a0 : Thing) (b14 : Bool) : SimL Try.prog D (n + 8) (n + 4) p59c13 (W73 b14) (W15 a0) (F59_u15 n b14) (QB 0 (QT Try.prog D (n + 8) p59c19 (QF false pc59_r 0 F59_e))) := by
  unfold F59_u15
  exact SimL.succ (.seq (.seq (.rg (W73 b14) (W15 a0) (.ru 2 [] (.thenN (.cf (.exit (.thenX (.loopX (.blockX (.thenN (.su 2 [] (.ret .fn)))))))))))))
def F59_u12 (n : Nat) (a0 : Thing) (b11 : Bool) : Option Bool :=
  if b11 then
   (F70 n a0.F.a3).bind fun (r13 : Bool) =>
   F59_u15 n r13
  else
   F59_u15 n false
theorem F59_u12_ok (n : Nat) (a0 : Thing) (b11 : Bool) : SimL Try.prog D (n + 8) (n + 5) p59c13 (W74 b11) (W15 a0) (F59_u12 n a0 b11) (QB 0 (QT Try.prog D (n + 8) p59c19 (QF false pc59_r 0 F59_e))) := by
  unfold F59_u12
  refine SimL.succ (.seq (.seq (.rg (W74 b11) (W15 a0) (.ru 2 [] (.thenN (.ct (.skip (.thenN (.seq (.block (.region0 (.rv 2 [] (.sp 23 _ ?_ ?_)))))))))))))
  ·refine SimI.rv 4 [] (.cl 28 true [[]] 70 [27] (some (23, true)) (fun r13 => qb r13) [.agg [lj a0.F.a3.N, ls a0.F.a3.Text]] (zdk _ _) (fun r13 => ?_))
   refine SimI.ru 2 [] (.blockN (.thenN (.region0 (.ru 3 [] (.loopN (.pr [1, 3, 4] [1] [] (W73 r13) (W15 a0) ?_))))))
   exact F59_u15_ok n a0 r13
  ·refine SimI.ru 7 [] (.blockN (.thenN (.region0 (.ru 3 [] (.loopN (.pr [1, 3, 4] [1] [] [(1, qp 1 0), (3, qb false), (4, qj 4)] (W15 a0) ?_))))))
   exact F59_u15_ok n a0 false
def F59_u9 (n : Nat) (a0 : Thing) (b8 : Bool) : Option Bool :=
  if b8 then
   (F70 n a0.F.a2).bind fun (r10 : Bool) =>
   F59_u12 n a0 r10
  else
   F59_u12 n a0 false
theorem F59_u9_ok (n : Nat) (a0 : Thing) (b8 : Bool) : SimL Try.prog D (n + 8) (n + 6) p59c13 (W75 b8) (W15 a0) (F59_u9 n a0 b8) (QB 0 (QT Try.prog D (n + 8) p59c19 (QF false pc59_r 0 F59_e))) := by
  unfold F59_u9
  refine SimL.succ (.seq (.seq (.rg (W75 b8) (W15 a0) (.ru 2 [] (.thenN (.ct (.skip (.thenN (.seq (.block (.region0 (.rv 2 [] (.sp 23 _ ?_ ?_)))))))))))))
  ·refine SimI.rv 4 [] (.cl 28 true [[]] 70 [27] (some (23, true)) (fun r10 => qb r10) [.agg [lj a0.F.a2.N, ls a0.F.a2.Text]] (zdk _ _) (fun r10 => ?_))
   refine SimI.ru 2 [] (.blockN (.thenN (.region0 (.ru 3 [] (.loopN (.pr [1, 3, 4] [1] [] (W74 r10) (W15 a0) ?_))))))
   exact F59_u12_ok n a0 r10
  ·refine SimI.ru 7 [] (.blockN (.thenN (.region0 (.ru 3 [] (.loopN (.pr [1, 3, 4] [1] [] [(1, qp 1 0), (3, qb false), (4, qj 3)] (W15 a0) ?_))))))
   exact F59_u12_ok n a0 false
def F59_u6 (n : Nat) (a0 : Thing) (b5 : Bool) : Option Bool :=
  if b5 then
   (F70 n a0.F.a1).bind fun (r7 : Bool) =>
   F59_u9 n a0 r7
  else
   F59_u9 n a0 false
theorem F59_u6_ok (n : Nat) (a0 : Thing) (b5 : Bool) : SimL Try.prog D (n + 8) (n + 7) p59c13 (W76 b5) (W15 a0) (F59_u6 n a0 b5) (QB 0 (QT Try.prog D (n + 8) p59c19 (QF false pc59_r 0 F59_e))) := by
  unfold F59_u6
  refine SimL.succ (.seq (.seq (.rg (W76 b5) (W15 a0) (.ru 2 [] (.thenN (.ct (.skip (.thenN (.seq (.block (.region0 (.rv 2 [] (.sp 23 _ ?_ ?_)))))))))))))
  ·refine SimI.rv 4 [] (.cl 28 true [[]] 70 [27] (some (23, true)) (fun r7 => qb r7) [.agg [lj a0.F.a1.N, ls a0.F.a1.Text]] (zdk _ _) (fun r7 => ?_))
   refine SimI.ru 2 [] (.blockN (.thenN (.region0 (.ru 3 [] (.loopN (.pr [1, 3, 4] [1] [] (W75 r7) (W15 a0) ?_))))))
   exact F59_u9_ok n a0 r7
  ·refine SimI.ru 7 [] (.blockN (.thenN (.region0 (.ru 3 [] (.loopN (.pr [1, 3, 4] [1] [] [(1, qp 1 0), (3, qb false), (4, qj 2)] (W15 a0) ?_))))))
   exact F59_u9_ok n a0 false
def F59_j3 (n : Nat) (a0 : Thing) (b2 : Bool) : Option Bool :=
  if b2 then
   (F70 n a0.F.a0).bind fun (r4 : Bool) =>
   F59_u6 n a0 r4
  else
   F59_u6 n a0 false
theorem F59_j3_ok (n : Nat) (a0 : Thing) (b2 : Bool) : Sim Try.prog D (n + 8) p59c20 [(1, qp 1 0), (3, qb b2)] (W15 a0) (F59_j3 n a0 b2) (QF false pc59_r 0 F59_e) := by
  unfold F59_j3
  refine Sim.seq (.seq (.rs (.ru 1 [] (.thenN (.block (.loop (.succ (.seq (.seq (.rg [(1, qp 1 0), (3, qb b2), (4, qj 0)] (W15 a0) (.ru 2 [] (.thenN (.ct (.skip (.thenN (.seq (.block (.region0 (.rv 2 [] (.sp 23 _ ?_ ?_))))))))))))))))))))
  ·refine SimI.rv 4 [] (.cl 28 true [[]] 70 [27] (some (23, true)) (fun r4 => qb r4) [.agg [lj a0.F.a0.N, ls a0.F.a0.Text]] (zdk _ _) (fun r4 => ?_))
   refine SimI.ru 2 [] (.blockN (.thenN (.region0 (.ru 3 [] (.loopN (.pr [1, 3, 4] [1] [] (W76 r4) (W15 a0) ?_))))))
   exact F59_u6_ok n a0 r4
  ·refine SimI.ru 7 [] (.blockN (.thenN (.region0 (.ru 3 [] (.loopN (.pr [1, 3, 4] [1] [] [(1, qp 1 0), (3, qb false), (4, qj 1)] (W15 a0) ?_))))))
   exact F59_u6_ok n a0 false
def F59 (n : Nat) (a0 : Thing) : Option Bool :=
 if decide ((0 : Int) ≤ a0.ID) then
  if decide (a0.ID ≤ 1000000) then
   (F75 n a0.At).bind fun (r1 : Bool) =>
   F59_j3 n a0 r1
  else
   F59_j3 n a0 false
 else
  F59_j3 n a0 false
theorem F59_ok (n : Nat) (a0 : Thing) : ∀ r, F59 n a0 = some r → D 59 [.agg (Thing.cells a0)] [] = some (F59_e r) := by
 refine zan (D := D) (n := n + 8) (nt := 31) (rs := pc59_r) (c := p59c22) (L := [(0, .agg (Thing.cells a0))]) (M := []) (k := 0) rfl rfl rfl rfl rfl rfl rfl ?_
 unfold F59
 refine Sim.su 2 (W15 a0) (.sv 4 [] (.sp 8 _ ?_ ?_))
 ·refine SimI.rv 5 [] (.sp 13 _ ?_ ?_)
  ·refine SimI.rv 2 [] (.cl 16 true [[]] 75 [15] (some (13, true)) (fun r1 => qb r1) [.agg [lj a0.At.X, lj a0.At.Y]] (F75_ok _ _) (fun r1 => ?_))
   refine SimI.ru 2 [] (.thenN (.pr [1, 3] [1] [] [(1, qp 1 0), (3, qb r1)] (W15 a0) ?_))
   exact F59_j3_ok n a0 r1
  ·refine SimI.ru 5 [] (.thenN (.pr [1, 3] [1] [] W56 (W15 a0) ?_))
   exact F59_j3_ok n a0 false
 ·refine SimI.ru 10 [] (.thenN (.pr [1, 3] [1] [] W56 (W15 a0) ?_))
  exact F59_j3_ok n a0 false
def F60_e : Bool → PV × List Ob := fun r => (.one (lb r), [])
def F60_u10 (n : Nat) : Option Bool :=
  some true
theorem F60_u10_ok (n : Nat) (a0 : Delta) : SimL Try.prog D (n + 8) (n + 4) p60c32 [(1, qp 1 0), (3, qj 4)] (W10 a0) (F60_u10 n) (QB 0 (QT Try.prog D (n + 8) p60c38 (QF false pc60_r 0 F60_e))) := by
  unfold F60_u10
  exact SimL.succ (.seq (.seq (.rg [(1, qp 1 0), (3, qj 4)] (W10 a0) (.rd 2 [(45, qb false), (44, qj 4)] [] (.thenN (.cf (.exit (.thenX (.loopX (.blockX (.thenN (.sr 1 [(2, qb true)] [] (.ret .fn)))))))))))))
def F60_u8 (n : Nat) (a0 : Delta) : Option Bool :=
  (F70 n a0.F.a3).bind fun (r9 : Bool) =>
  if !(r9) then
   some false
  else
   if (zav .and .u8 (shrI .u8 a0.Mask 4) 1) == 0 then
    if !(Field.eqb a0.F.a3 (Field.mk 0 ByteArray.empty)) then
     some false
    else
     F60_u10 n
   else
    F60_u10 n
theorem F60_u8_ok (n : Nat) (a0 : Delta) : SimL Try.prog D (n + 8) (n + 5) p60c32 [(1, qp 1 0), (3, qj 3)] (W10 a0) (F60_u8 n a0) (QB 0 (QT Try.prog D (n + 8) p60c38 (QF false pc60_r 0 F60_e))) := by
  unfold F60_u8
  refine SimL.succ (.seq (.seq (.rg [(1, qp 1 0), (3, qj 3)] (W10 a0) (.rd 2 [(45, qb true), (44, qj 3)] [] (.thenN (.ct (.skip (.thenN (.seq (.block (.st 4 [(51, .agg (W77 a0)), (50, qp 1 10), (49, qp 1 4), (48, qj 3)] [] (.cl 52 true [[]] 70 [51] none (fun r9 => qb r9) [.agg (W77 a0)] (zdk _ _) (fun r9 => ?_)))))))))))))
  refine SimI.rn 2 [(54, qb (!(r9))), (53, qb (!(r9)))] [] (.sp 54 _ ?_ ?_)
  ·exact SimI.rd 17 ([(71, qb true)] ++ rp W62 tz) [] (.thenN (.ct (.sr 1 [(2, qb false)] [] (.ret (.blockR (.thenR (.loopR (.blockR (.thenR .fn)))))))))
  ·refine SimI.rn 9 (rp [63, 62] (qb ((zav .and .u8 (shrI .u8 a0.Mask 4) 1) == 0)) ++ [(61, .one (li .u8 (zav .and .u8 (shrI .u8 a0.Mask 4) 1))), (60, .one (li .u8 (shrI .u8 a0.Mask 4))), (59, .one (li .u64 4)), (58, qj 4), (57, qj 3), (56, .one (li .u8 a0.Mask)), (55, qp 1 1)]) [] (.sp 63 _ ?_ ?_)
   ·refine SimI.rn 5 [(68, .agg [lj 0, ls be]), (67, .agg (W77 a0)), (66, qp 1 10), (65, qp 1 4), (64, qj 3)] [] (.se ⟨some 69, .prim (.bin .neq 51 false false) [67, 68], some (63, true), []⟩ [(69, qb (!(Field.eqb a0.F.a3 (Field.mk 0 be))))] [] (pe (ep (zcb a0.F.a3 (Field.mk 0 be) _ _))) (.rd 2 (rp [71, 70] (qb (!(Field.eqb a0.F.a3 (Field.mk 0 be))))) [] (.thenN (.cd _ ?_ ?_))))
    ·exact Sim.sr 1 [(2, qb false)] [] (.ret (.blockR (.thenR (.loopR (.blockR (.thenR .fn))))))
    ·refine Sim.skip (.blockN (.thenN (.region0 (.rd 3 [(3, qj 4), (47, qj 4), (46, qj 3)] [] (.loopN (.pr [1, 3] [1] [] [(1, qp 1 0), (3, qj 4)] (W10 a0) ?_))))))
     exact F60_u10_ok n a0
   ·refine SimI.rd 8 (W84 ++ rp [69, 68, 67, 66, 65, 64] tz) [] (.thenN (.cf (.skip (.blockN (.thenN (.region0 (.rd 3 [(3, qj 4), (47, qj 4), (46, qj 3)] [] (.loopN (.pr [1, 3] [1] [] [(1, qp 1 0), (3, qj 4)] (W10 a0) ?_)))))))))
    exact F60_u10_ok n a0
def F60_u6 (n : Nat) (a0 : Delta) : Option Bool :=
  (F70 n a0.F.a2).bind fun (r7 : Bool) =>
  if !(r7) then
   some false
  else
   if (zav .and .u8 (shrI .u8 a0.Mask 3) 1) == 0 then
    if !(Field.eqb a0.F.a2 (Field.mk 0 ByteArray.empty)) then
     some false
    else
     F60_u8 n a0
   else
    F60_u8 n a0
theorem F60_u6_ok (n : Nat) (a0 : Delta) : SimL Try.prog D (n + 8) (n + 6) p60c32 [(1, qp 1 0), (3, qj 2)] (W10 a0) (F60_u6 n a0) (QB 0 (QT Try.prog D (n + 8) p60c38 (QF false pc60_r 0 F60_e))) := by
  unfold F60_u6
  refine SimL.succ (.seq (.seq (.rg [(1, qp 1 0), (3, qj 2)] (W10 a0) (.rd 2 [(45, qb true), (44, qj 2)] [] (.thenN (.ct (.skip (.thenN (.seq (.block (.st 4 [(51, .agg (W78 a0)), (50, qp 1 8), (49, qp 1 4), (48, qj 2)] [] (.cl 52 true [[]] 70 [51] none (fun r7 => qb r7) [.agg (W78 a0)] (zdk _ _) (fun r7 => ?_)))))))))))))
  refine SimI.rn 2 [(54, qb (!(r7))), (53, qb (!(r7)))] [] (.sp 54 _ ?_ ?_)
  ·exact SimI.rd 17 ([(71, qb true)] ++ rp W62 tz) [] (.thenN (.ct (.sr 1 [(2, qb false)] [] (.ret (.blockR (.thenR (.loopR (.blockR (.thenR .fn)))))))))
  ·refine SimI.rn 9 (rp [63, 62] (qb ((zav .and .u8 (shrI .u8 a0.Mask 3) 1) == 0)) ++ [(61, .one (li .u8 (zav .and .u8 (shrI .u8 a0.Mask 3) 1))), (60, .one (li .u8 (shrI .u8 a0.Mask 3))), (59, .one (li .u64 3)), (58, qj 3), (57, qj 2), (56, .one (li .u8 a0.Mask)), (55, qp 1 1)]) [] (.sp 63 _ ?_ ?_)
   ·refine SimI.rn 5 [(68, .agg [lj 0, ls be]), (67, .agg (W78 a0)), (66, qp 1 8), (65, qp 1 4), (64, qj 2)] [] (.se ⟨some 69, .prim (.bin .neq 51 false false) [67, 68], some (63, true), []⟩ [(69, qb (!(Field.eqb a0.F.a2 (Field.mk 0 be))))] [] (pe (ep (zcb a0.F.a2 (Field.mk 0 be) _ _))) (.rd 2 (rp [71, 70] (qb (!(Field.eqb a0.F.a2 (Field.mk 0 be))))) [] (.thenN (.cd _ ?_ ?_))))
    ·exact Sim.sr 1 [(2, qb false)] [] (.ret (.blockR (.thenR (.loopR (.blockR (.thenR .fn))))))
    ·refine Sim.skip (.blockN (.thenN (.region0 (.rd 3 [(3, qj 3), (47, qj 3), (46, qj 2)] [] (.loopN (.pr [1, 3] [1] [] [(1, qp 1 0), (3, qj 3)] (W10 a0) ?_))))))
     exact F60_u8_ok n a0
   ·refine SimI.rd 8 (W84 ++ rp [69, 68, 67, 66, 65, 64] tz) [] (.thenN (.cf (.skip (.blockN (.thenN (.region0 (.rd 3 [(3, qj 3), (47, qj 3), (46, qj 2)] [] (.loopN (.pr [1, 3] [1] [] [(1, qp 1 0), (3, qj 3)] (W10 a0) ?_)))))))))
    exact F60_u8_ok n a0
def F60_u4 (n : Nat) (a0 : Delta) : Option Bool :=
  (F70 n a0.F.a1).bind fun (r5 : Bool) =>
  if !(r5) then
   some false
  else
   if (zav .and .u8 (shrI .u8 a0.Mask 2) 1) == 0 then
    if !(Field.eqb a0.F.a1 (Field.mk 0 ByteArray.empty)) then
     some false
    else
     F60_u6 n a0
   else
    F60_u6 n a0
theorem F60_u4_ok (n : Nat) (a0 : Delta) : SimL Try.prog D (n + 8) (n + 7) p60c32 [(1, qp 1 0), (3, qj 1)] (W10 a0) (F60_u4 n a0) (QB 0 (QT Try.prog D (n + 8) p60c38 (QF false pc60_r 0 F60_e))) := by
  unfold F60_u4
  refine SimL.succ (.seq (.seq (.rg [(1, qp 1 0), (3, qj 1)] (W10 a0) (.rd 2 [(45, qb true), (44, qj 1)] [] (.thenN (.ct (.skip (.thenN (.seq (.block (.st 4 [(51, .agg (W79 a0)), (50, qp 1 6), (49, qp 1 4), (48, qj 1)] [] (.cl 52 true [[]] 70 [51] none (fun r5 => qb r5) [.agg (W79 a0)] (zdk _ _) (fun r5 => ?_)))))))))))))
  refine SimI.rn 2 [(54, qb (!(r5))), (53, qb (!(r5)))] [] (.sp 54 _ ?_ ?_)
  ·exact SimI.rd 17 ([(71, qb true)] ++ rp W62 tz) [] (.thenN (.ct (.sr 1 [(2, qb false)] [] (.ret (.blockR (.thenR (.loopR (.blockR (.thenR .fn)))))))))
  ·refine SimI.rn 9 (rp [63, 62] (qb ((zav .and .u8 (shrI .u8 a0.Mask 2) 1) == 0)) ++ [(61, .one (li .u8 (zav .and .u8 (shrI .u8 a0.Mask 2) 1))), (60, .one (li .u8 (shrI .u8 a0.Mask 2))), (59, .one (li .u64 2)), (58, qj 2), (57, qj 1), (56, .one (li .u8 a0.Mask)), (55, qp 1 1)]) [] (.sp 63 _ ?_ ?_)
   ·refine SimI.rn 5 [(68, .agg [lj 0, ls be]), (67, .agg (W79 a0)), (66, qp 1 6), (65, qp 1 4), (64, qj 1)] [] (.se ⟨some 69, .prim (.bin .neq 51 false false) [67, 68], some (63, true), []⟩ [(69, qb (!(Field.eqb a0.F.a1 (Field.mk 0 be))))] [] (pe (ep (zcb a0.F.a1 (Field.mk 0 be) _ _))) (.rd 2 (rp [71, 70] (qb (!(Field.eqb a0.F.a1 (Field.mk 0 be))))) [] (.thenN (.cd _ ?_ ?_))))
    ·exact Sim.sr 1 [(2, qb false)] [] (.ret (.blockR (.thenR (.loopR (.blockR (.thenR .fn))))))
    ·refine Sim.skip (.blockN (.thenN (.region0 (.rd 3 [(3, qj 2), (47, qj 2), (46, qj 1)] [] (.loopN (.pr [1, 3] [1] [] [(1, qp 1 0), (3, qj 2)] (W10 a0) ?_))))))
     exact F60_u6_ok n a0
   ·refine SimI.rd 8 (W84 ++ rp [69, 68, 67, 66, 65, 64] tz) [] (.thenN (.cf (.skip (.blockN (.thenN (.region0 (.rd 3 [(3, qj 2), (47, qj 2), (46, qj 1)] [] (.loopN (.pr [1, 3] [1] [] [(1, qp 1 0), (3, qj 2)] (W10 a0) ?_)))))))))
    exact F60_u6_ok n a0
def zgt (n : Nat) (a0 : Delta) : Option Bool :=
  (F70 n a0.F.a0).bind fun (r3 : Bool) =>
  if !(r3) then
   some false
  else
   if (zav .and .u8 (shrI .u8 a0.Mask 1) 1) == 0 then
    if !(Field.eqb a0.F.a0 (Field.mk 0 ByteArray.empty)) then
     some false
    else
     F60_u4 n a0
   else
    F60_u4 n a0
theorem zgs (n : Nat) (a0 : Delta) : Sim Try.prog D (n + 8) p60c39 [(1, qp 1 0)] (W10 a0) (zgt n a0) (QF false pc60_r 0 F60_e) := by
  unfold zgt
  refine Sim.seq (.seq (.rs (.rd 1 [(3, qj 0)] [] (.thenN (.block (.loop (.succ (.seq (.seq (.rg [(1, qp 1 0), (3, qj 0)] (W10 a0) (.rd 2 [(45, qb true), (44, qj 0)] [] (.thenN (.ct (.skip (.thenN (.seq (.block (.st 4 [(51, .agg (W80 a0)), (50, qp 1 4), (49, qp 1 4), (48, qj 0)] [] (.cl 52 true [[]] 70 [51] none (fun r3 => qb r3) [.agg (W80 a0)] (zdk _ _) (fun r3 => ?_))))))))))))))))))))
  refine SimI.rn 2 [(54, qb (!(r3))), (53, qb (!(r3)))] [] (.sp 54 _ ?_ ?_)
  ·exact SimI.rd 17 ([(71, qb true)] ++ rp W62 tz) [] (.thenN (.ct (.sr 1 [(2, qb false)] [] (.ret (.blockR (.thenR (.loopR (.blockR (.thenR .fn)))))))))
  ·refine SimI.rn 9 (rp [63, 62] (qb ((zav .and .u8 (shrI .u8 a0.Mask 1) 1) == 0)) ++ [(61, .one (li .u8 (zav .and .u8 (shrI .u8 a0.Mask 1) 1))), (60, .one (li .u8 (shrI .u8 a0.Mask 1))), (59, .one (li .u64 1)), (58, qj 1), (57, qj 0), (56, .one (li .u8 a0.Mask)), (55, qp 1 1)]) [] (.sp 63 _ ?_ ?_)
   ·refine SimI.rn 5 [(68, .agg [lj 0, ls be]), (67, .agg (W80 a0)), (66, qp 1 4), (65, qp 1 4), (64, qj 0)] [] (.se ⟨some 69, .prim (.bin .neq 51 false false) [67, 68], some (63, true), []⟩ [(69, qb (!(Field.eqb a0.F.a0 (Field.mk 0 be))))] [] (pe (ep (zcb a0.F.a0 (Field.mk 0 be) _ _))) (.rd 2 (rp [71, 70] (qb (!(Field.eqb a0.F.a0 (Field.mk 0 be))))) [] (.thenN (.cd _ ?_ ?_))))
    ·exact Sim.sr 1 [(2, qb false)] [] (.ret (.blockR (.thenR (.loopR (.blockR (.thenR .fn))))))
    ·refine Sim.skip (.blockN (.thenN (.region0 (.rd 3 [(3, qj 1), (47, qj 1), (46, qj 0)] [] (.loopN (.pr [1, 3] [1] [] [(1, qp 1 0), (3, qj 1)] (W10 a0) ?_))))))
     exact F60_u4_ok n a0
   ·refine SimI.rd 8 (W84 ++ rp [69, 68, 67, 66, 65, 64] tz) [] (.thenN (.cf (.skip (.blockN (.thenN (.region0 (.rd 3 [(3, qj 1), (47, qj 1), (46, qj 0)] [] (.loopN (.pr [1, 3] [1] [] [(1, qp 1 0), (3, qj 1)] (W10 a0) ?_)))))))))
    exact F60_u4_ok n a0
def F60 (n : Nat) (a0 : Delta) : Option Bool :=
 if decide (a0.ID < 0) then
  some false
 else
  if decide ((1000000 : Int) < a0.ID) then
   some false
  else
   if decide (a0.Mask < 1) then
    some false
   else
    if decide ((31 : Int) < a0.Mask) then
     some false
    else
     if (zav .and .u8 a0.Mask 1) != 0 then
      (F75 n a0.At).bind fun (r1 : Bool) =>
      if !(r1) then
       some false
      else
       if (zav .and .u8 a0.Mask 1) == 0 then
        if !(Point.eqb a0.At (Point.mk 0 0)) then
         some false
        else
         zgt n a0
       else
        zgt n a0
     else
      if (zav .and .u8 a0.Mask 1) == 0 then
       if !(Point.eqb a0.At (Point.mk 0 0)) then
        some false
       else
        zgt n a0
      else
       zgt n a0
theorem F60_ok (n : Nat) (a0 : Delta) : ∀ r, F60 n a0 = some r → D 60 [.agg (Delta.cells a0)] [] = some (F60_e r) := by
 refine zan (D := D) (n := n + 8) (nt := 72) (rs := pc60_r) (c := p60c42) (L := [(0, .agg (Delta.cells a0))]) (M := []) (k := 0) rfl rfl rfl rfl rfl rfl rfl ?_
 unfold F60
 refine Sim.sr 2 [(2, qb false), (1, qp 1 0)] (W10 a0) (.seq (.st 4 (rp [7, 6] (qb (decide (a0.ID < 0))) ++ [(5, qj a0.ID), (4, qp 1 0)]) [] (.sp 7 _ ?_ ?_)))
 ·exact SimI.rd 14 [(21, qb true), (20, tz), (19, tz), (18, tz), (17, qb true), (16, qb true), (15, tz), (14, tz), (13, tz), (12, qb true), (11, qb true), (10, tz), (9, tz), (8, tz)] [] (.thenN (.ct (.sr 1 [(2, qb false)] [] (.ret (.thenR .fn)))))
 ·refine SimI.rn 5 (rp [12, 11, 10] (qb (decide ((1000000 : Int) < a0.ID))) ++ [(9, qj a0.ID), (8, qp 1 0)]) [] (.sp 12 _ ?_ ?_)
  ·exact SimI.rd 9 [(21, qb true), (20, tz), (19, tz), (18, tz), (17, qb true), (16, qb true), (15, tz), (14, tz), (13, tz)] [] (.thenN (.ct (.sr 1 [(2, qb false)] [] (.ret (.thenR .fn)))))
  ·refine SimI.rn 5 (rp [17, 16, 15] (qb (decide (a0.Mask < 1))) ++ [(14, .one (li .u8 a0.Mask)), (13, qp 1 1)]) [] (.sp 17 _ ?_ ?_)
   ·exact SimI.rd 4 [(21, qb true), (20, tz), (19, tz), (18, tz)] [] (.thenN (.ct (.sr 1 [(2, qb false)] [] (.ret (.thenR .fn)))))
   ·refine SimI.rd 4 (rp [21, 20] (qb (decide ((31 : Int) < a0.Mask))) ++ [(19, .one (li .u8 a0.Mask)), (18, qp 1 1)]) [] (.thenN (.cd _ ?_ ?_))
    ·exact Sim.sr 1 [(2, qb false)] [] (.ret (.thenR .fn))
    ·refine Sim.skip (.thenN (.seq (.st 5 (rp [26, 25] (qb ((zav .and .u8 a0.Mask 1) != 0)) ++ [(24, .one (li .u8 (zav .and .u8 a0.Mask 1))), (23, .one (li .u8 a0.Mask)), (22, qp 1 1)]) [] (.sp 26 _ ?_ ?_))))
     ·refine SimI.rn 2 [(28, .agg [lj a0.At.X, lj a0.At.Y]), (27, qp 1 2)] [] (.cl 29 true [[]] 75 [28] (some (26, true)) (fun r1 => qb r1) [.agg [lj a0.At.X, lj a0.At.Y]] (F75_ok _ _) (fun r1 => ?_))
      refine SimI.rn 3 (rp [32, 31, 30] (qb (!(r1)))) [] (.sp 32 _ ?_ ?_)
      ·exact SimI.rd 11 ([(43, qb true)] ++ rp [42, 41, 40, 39, 38, 37, 36, 35, 34, 33] tz) [] (.thenN (.ct (.sr 1 [(2, qb false)] [] (.ret (.thenR .fn)))))
      ·refine SimI.rn 5 (rp [37, 36] (qb ((zav .and .u8 a0.Mask 1) == 0)) ++ [(35, .one (li .u8 (zav .and .u8 a0.Mask 1))), (34, .one (li .u8 a0.Mask)), (33, qp 1 1)]) [] (.sp 37 _ ?_ ?_)
       ·refine SimI.rn 3 [(40, .agg [lj 0, lj 0]), (39, .agg [lj a0.At.X, lj a0.At.Y]), (38, qp 1 2)] [] (.se ⟨some 41, .prim (.bin .neq 49 false false) [39, 40], some (37, true), []⟩ [(41, qb (!(Point.eqb a0.At (Point.mk 0 0))))] [] (pe (ep (Point_eqn a0.At (Point.mk 0 0) _ _))) (.rd 2 (w33 a0) [] (.thenN (.cd _ ?_ ?_))))
        ·exact Sim.sr 1 [(2, qb false)] [] (.ret (.thenR .fn))
        ·refine Sim.skip (.thenN (.pr [1] [1] [] [(1, qp 1 0)] (W10 a0) ?_))
         exact zgs n a0
       ·refine SimI.rd 6 [(43, qb false), (42, qb false), (41, tz), (40, tz), (39, tz), (38, tz)] [] (.thenN (.cf (.skip (.thenN (.pr [1] [1] [] [(1, qp 1 0)] (W10 a0) ?_)))))
        exact zgs n a0
     ·refine SimI.rn 11 (rp [37, 36] (qb ((zav .and .u8 a0.Mask 1) == 0)) ++ [(35, .one (li .u8 (zav .and .u8 a0.Mask 1))), (34, .one (li .u8 a0.Mask)), (33, qp 1 1), (32, qb false), (31, qb false), (30, tz), (29, tz), (28, tz), (27, tz)]) [] (.sp 37 _ ?_ ?_)
      ·refine SimI.rn 3 [(40, .agg [lj 0, lj 0]), (39, .agg [lj a0.At.X, lj a0.At.Y]), (38, qp 1 2)] [] (.se ⟨some 41, .prim (.bin .neq 49 false false) [39, 40], some (37, true), []⟩ [(41, qb (!(Point.eqb a0.At (Point.mk 0 0))))] [] (pe (ep (Point_eqn a0.At (Point.mk 0 0) _ _))) (.rd 2 (w33 a0) [] (.thenN (.cd _ ?_ ?_))))
       ·exact Sim.sr 1 [(2, qb false)] [] (.ret (.thenR .fn))
       ·refine Sim.skip (.thenN (.pr [1] [1] [] [(1, qp 1 0)] (W10 a0) ?_))
        exact zgs n a0
      ·refine SimI.rd 6 [(43, qb false), (42, qb false), (41, tz), (40, tz), (39, tz), (38, tz)] [] (.thenN (.cf (.skip (.thenN (.pr [1] [1] [] [(1, qp 1 0)] (W10 a0) ?_)))))
       exact zgs n a0
def F48_e : Bool → PV × List Ob := fun r => (.one (lb r), [])
def F48 (n : Nat) (a0 : Event) : Option Bool :=
 if a0.Kind == 1 then
  (F59 n a0.Thing).bind fun (r1 : Bool) =>
  if r1 then
   if a0.ID == a0.Thing.ID then
    some (Delta.eqb a0.Delta (Delta.mk 0 0 (Point.mk 0 0) (A4.mk (Field.mk 0 ByteArray.empty) (Field.mk 0 ByteArray.empty) (Field.mk 0 ByteArray.empty) (Field.mk 0 ByteArray.empty))))
   else
    some false
  else
   some false
 else
  if a0.Kind == 2 then
   (F60 n a0.Delta).bind fun (r2 : Bool) =>
   if r2 then
    if a0.ID == a0.Delta.ID then
     some (Thing.eqb a0.Thing (Thing.mk 0 (Point.mk 0 0) (A4.mk (Field.mk 0 ByteArray.empty) (Field.mk 0 ByteArray.empty) (Field.mk 0 ByteArray.empty) (Field.mk 0 ByteArray.empty))))
    else
     some false
   else
    some false
  else
   if a0.Kind == 3 then
    if decide ((0 : Int) ≤ a0.ID) then
     if decide (a0.ID ≤ 1000000) then
      if Thing.eqb a0.Thing (Thing.mk 0 (Point.mk 0 0) (A4.mk (Field.mk 0 ByteArray.empty) (Field.mk 0 ByteArray.empty) (Field.mk 0 ByteArray.empty) (Field.mk 0 ByteArray.empty))) then
       some (Delta.eqb a0.Delta (Delta.mk 0 0 (Point.mk 0 0) (A4.mk (Field.mk 0 ByteArray.empty) (Field.mk 0 ByteArray.empty) (Field.mk 0 ByteArray.empty) (Field.mk 0 ByteArray.empty))))
      else
       some false
     else
      some false
    else
     some false
   else
    some false
theorem F48_ok (n : Nat) (a0 : Event) : ∀ r, F48 n a0 = some r → D 48 [.agg (Event.cells a0)] [] = some (F48_e r) := by
 refine zan (D := D) (n := n + 8) (nt := 65) (rs := pc48_r) (c := p48c28) (L := [(0, .agg (Event.cells a0))]) (M := []) (k := 0) rfl rfl rfl rfl rfl rfl rfl ?_
 unfold F48
 refine Sim.su 2 [(1, some (.cells (Event.cells a0)))] (.seq (.su 2 [] (.block (.su 2 [] (.cd _ ?_ ?_)))))
 ·refine Sim.sv 2 [] (.cl 9 true [[]] 59 [8] none (fun r1 => qb r1) [.agg (Thing.cells a0.Thing)] (F59_ok _ _) (fun r1 => ?_))
  refine SimI.rv 1 [] (.sp 10 _ ?_ ?_)
  ·refine SimI.rv 8 [] (.sp 18 _ ?_ ?_)
   ·exact SimI.rv 3 [] (.se ⟨some 22, .prim (.bin .eql 56 false false) [20, 21], some (18, true), []⟩ [(22, qb (Delta.eqb a0.Delta (Delta.mk 0 0 (Point.mk 0 0) (A4.mk (Field.mk 0 be) (Field.mk 0 be) (Field.mk 0 be) (Field.mk 0 be)))))] [] (pe (ep (Delta_eql a0.Delta (Delta.mk 0 0 (Point.mk 0 0) (A4.mk (Field.mk 0 be) (Field.mk 0 be) (Field.mk 0 be) (Field.mk 0 be))) _ _))) (.ru 2 [] (.thenN (.ret (.blockR (.thenR .fn))))))
   ·exact SimI.ru 6 [] (.thenN (.ret (.blockR (.thenR .fn))))
  ·exact SimI.ru 14 [] (.thenN (.ret (.blockR (.thenR .fn))))
 ·refine Sim.su 2 [] (.cd _ ?_ ?_)
  ·refine Sim.sv 2 [] (.cl 28 true [[]] 60 [27] none (fun r2 => qb r2) [.agg (Delta.cells a0.Delta)] (F60_ok _ _) (fun r2 => ?_))
   refine SimI.rv 1 [] (.sp 29 _ ?_ ?_)
   ·refine SimI.rv 8 [] (.sp 37 _ ?_ ?_)
    ·exact SimI.rv 3 [] (.se ⟨some 41, .prim (.bin .eql 54 false false) [39, 40], some (37, true), []⟩ [(41, qb (Thing.eqb a0.Thing (Thing.mk 0 (Point.mk 0 0) (A4.mk (Field.mk 0 be) (Field.mk 0 be) (Field.mk 0 be) (Field.mk 0 be)))))] [] (pe (ep (Thing_eql a0.Thing (Thing.mk 0 (Point.mk 0 0) (A4.mk (Field.mk 0 be) (Field.mk 0 be) (Field.mk 0 be) (Field.mk 0 be))) _ _))) (.ru 2 [] (.thenN (.ret (.blockR (.thenR .fn))))))
    ·exact SimI.ru 6 [] (.thenN (.ret (.blockR (.thenR .fn))))
   ·exact SimI.ru 14 [] (.thenN (.ret (.blockR (.thenR .fn))))
  ·refine Sim.su 2 [] (.cd _ ?_ ?_)
   ·refine Sim.sv 4 [] (.sp 48 _ ?_ ?_)
    ·refine SimI.rv 5 [] (.sp 53 _ ?_ ?_)
     ·refine SimI.rv 3 [] (.se ⟨some 57, .prim (.bin .eql 54 false false) [55, 56], some (53, true), []⟩ [(57, qb (Thing.eqb a0.Thing (Thing.mk 0 (Point.mk 0 0) (A4.mk (Field.mk 0 be) (Field.mk 0 be) (Field.mk 0 be) (Field.mk 0 be)))))] [] (pe (ep (Thing_eql a0.Thing (Thing.mk 0 (Point.mk 0 0) (A4.mk (Field.mk 0 be) (Field.mk 0 be) (Field.mk 0 be) (Field.mk 0 be))) _ _))) (.rv 2 [] (.sp 59 _ ?_ ?_)))
      ·exact SimI.rv 3 [] (.se ⟨some 63, .prim (.bin .eql 56 false false) [61, 62], some (59, true), []⟩ [(63, qb (Delta.eqb a0.Delta (Delta.mk 0 0 (Point.mk 0 0) (A4.mk (Field.mk 0 be) (Field.mk 0 be) (Field.mk 0 be) (Field.mk 0 be)))))] [] (pe (ep (Delta_eql a0.Delta (Delta.mk 0 0 (Point.mk 0 0) (A4.mk (Field.mk 0 be) (Field.mk 0 be) (Field.mk 0 be) (Field.mk 0 be))) _ _))) (.ru 2 [] (.thenN (.ret (.blockR (.thenR .fn))))))
      ·exact SimI.ru 6 [] (.thenN (.ret (.blockR (.thenR .fn))))
     ·exact SimI.ru 12 [] (.thenN (.ret (.blockR (.thenR .fn))))
    ·exact SimI.ru 17 [] (.thenN (.ret (.blockR (.thenR .fn))))
   ·exact Sim.skip (.blockN (.thenN (.su 1 [] (.ret .fn))))
def F87_e : Int → PV × List Ob := fun r => (.one (li .i64 r), [])
def F87_l4 (n : Nat) (a0 : (List Thing)) (a1 : Int) : Nat → Int → Option Int
 | 0, _ => none
 | m + 1, i3 =>
  if decide (i3 < ((a0).length : Int)) then
   (ix a0 i3).bind fun (x5 : Thing) =>
   if x5.ID == a1 then
    some i3
   else
    (F87_l4 n a0 a1 m) (IntKind.wrap .i64 (i3 + 1))
  else
   some (-1)
theorem F87_l4_ok (n : Nat) (a0 : (List Thing)) (a1 : Int) : ∀ (m : Nat) (i3 : Int), SimL Try.prog D (n + 8) m p87c18 [(0, .one (vw Thing.cod a0)), (1, qj a1), (5, qj i3)] [] (F87_l4 n a0 a1 m i3) (QB 0 (QT Try.prog D (n + 8) p87c24 (QF false pc87_r 0 F87_e))) := by
 intro m_l4
 induction m_l4 with
 | zero => intro i3; exact SimL.zero'  rfl
 | succ m_l4 ih_l4 =>
  intro i3
  refine SimL.succ ?_
  unfold F87_l4
  refine Sim.seq (.seq (.rg [(0, .one (vw Thing.cod a0)), (1, qj a1), (5, qj i3)] [] (.ru 4 [] (.thenN (.cd _ ?_ ?_)))))
  ·refine Sim.skip (.thenN (.seq (.block (.sv 2 [] (.bn ⟨some 14, .iaddrS 11 12 13, none, []⟩ (fun x5 => [(14, .one (.eptr (Thing.cod.enc x5) 0))]) (fun x5 => []) (fun x5 hr => pe (ei (c := Thing.cod) (k := .i64) hr)) (fun x5 => ?_))))))
   refine SimI.ru 4 [] (.thenN (.cd _ ?_ ?_))
   ·exact Sim.su 2 [] (.ret (.blockR (.thenR (.loopR (.blockR (.thenR .fn))))))
   ·refine Sim.skip (.blockN (.thenN (.region0 (.ru 3 [] (.loopN (.pr [0, 1, 5] [] [] [(0, .one (vw Thing.cod a0)), (1, qj a1), (5, qj (iw .i64 (i3 + 1)))] [] ?_))))))
    exact ih_l4 (iw .i64 (i3 + 1))
  ·exact Sim.exit (.thenX (.loopX (.blockX (.thenN (.su 1 [] (.ret .fn))))))
def F87 (n : Nat) (a0 : (List Thing)) (a1 : Int) : Option Int :=
 F87_l4 n a0 a1 (n + 8) 0
theorem F87_ok (n : Nat) (a0 : (List Thing)) (a1 : Int) : ∀ r, F87 n a0 a1 = some r → D 87 [.one (vw Thing.cod a0), .one (li .i64 a1)] [] = some (F87_e r) := by
 refine zan (D := D) (n := n + 8) (nt := 20) (rs := pc87_r) (c := p87c26) (L := [(0, .one (vw Thing.cod a0)), (1, qj a1)]) (M := []) (k := 0) rfl rfl rfl rfl rfl rfl rfl ?_
 unfold F87
 refine Sim.su 1 [] (.seq (.su 1 [] (.block (.loop (.pr [0, 1, 5] [] [] [(0, .one (vw Thing.cod a0)), (1, qj a1), (5, qj 0)] [] ?_)))))
 exact F87_l4_ok n a0 a1 (n + 8) 0
def F88_e : (List Thing) → PV × List Ob := fun r => (.one (vw Thing.cod r), [])
def zfo (n : Nat) (a0 : (List Thing)) (a1 : Thing) (i9 : Int) (rec_l10 : (List Thing) → Bool → Int → Option (List Thing)) (l12 : (List Thing)) (b13 : Bool) : Option (List Thing) :=
  (ix a0 i9).bind fun (x15 : Thing) =>
  if x15.ID != a1.ID then
   (ix a0 i9).bind fun (x16 : Thing) =>
   if ((l12).length + 1) * 120 ≤ zae ∧ (l12).length + 1 ≤ zae then
    rec_l10 (l12 ++ [x16]) b13 (IntKind.wrap .i64 (i9 + 1))
   else none
  else
   rec_l10 l12 b13 (IntKind.wrap .i64 (i9 + 1))
theorem F88_j14_ok (n : Nat) (a0 : (List Thing)) (a1 : Thing) (i9 : Int) (rec_l10 : (List Thing) → Bool → Int → Option (List Thing)) (m_l10 : Nat) (ih_l10 : ∀ (l7 : (List Thing)) (b8 : Bool) (i9 : Int), SimL Try.prog D (n + 8) m_l10 p88c26 (W40 a0 l7 b8 i9) (W20 a1 l7) (rec_l10 l7 b8 i9) (QB 0 (QT Try.prog D (n + 8) p88c38 (QF false pc88_r 0 F88_e)))) (l12 : (List Thing)) (b13 : Bool) : Sim Try.prog D (n + 8) p88c21 (W40 a0 l12 b13 i9) (W20 a1 l12) (zfo n a0 a1 i9 rec_l10 l12 b13) (QB 1 (QT Try.prog D (n + 8) p88c24 (QL Try.prog D (n + 8) m_l10 p88c26 (QB 0 (QT Try.prog D (n + 8) p88c38 (QF false pc88_r 0 F88_e)))))) := by
  unfold zfo
  refine Sim.seq (.rs (.rv 2 [] (.bn ⟨some 32, .iaddrS 11 30 31, none, [(30, .imm), (31, .imm)]⟩ (fun x15 => [(32, .one (.eptr (Thing.cod.enc x15) 0))]) (fun x15 => []) (fun x15 hr => pe (ei (c := Thing.cod) (k := .i64) hr)) (fun x15 => ?_))))
  refine SimI.ru 5 [] (.thenN (.cd _ ?_ ?_))
  ·refine Sim.region0 (.rv 3 [] (.bn ⟨some 41, .iaddrS 11 39 40, none, []⟩ (fun x16 => [(41, .one (.eptr (Thing.cod.enc x16) 0))]) (fun x16 => []) (fun x16 hr => pe (ei (c := Thing.cod) (k := .i64) hr)) (fun x16 => ?_)))
   refine SimI.rv 2 [] (.gu ⟨some 44, .app 100005 54 11 120 38 43, none, []⟩ [(44, .one (.osl 100005 (0 + 1) 0 ((l12 ++ [x16])).length))] (W57 l12 x16) (fun hc => pe (zcx (c := Thing.cod) (g := 0) (l := l12) (a := x16) (by kernel_rfl) (by kernel_rfl) (by kernel_rfl) (by kernel_rfl) hc)) (.ru 1 [] (.blockN (.thenN (.region0 (.ru 3 [] (.loopN (.pr [0, 3, 5, 6, 7] [3, 100005] [(false, 5, 0, 100005, 54, 11)] [(0, .one (vw Thing.cod a0)), (3, qp 3 0), (5, .one (.osl 100005 0 0 ((l12 ++ [x16])).length)), (6, qb b13), (7, qj (iw .i64 (i9 + 1)))] [(3, some (.cells (Thing.cells a1))), (100005, some (.arr 54 Thing.cod.sz 0 ((l12 ++ [x16])).length (zaa Thing.cod (l12 ++ [x16]))))] ?_))))))))
   exact ih_l10 (l12 ++ [x16]) b13 (iw .i64 (i9 + 1))
  ·refine Sim.skip (.blockN (.thenN (.region0 (.ru 3 [] (.loopN (.pr [0, 3, 5, 6, 7] [3, 100005] [(false, 5, 0, 100005, 54, 11)] [(0, .one (vw Thing.cod a0)), (3, qp 3 0), (5, .one (.osl 100005 0 0 (l12).length)), (6, qb b13), (7, qj (iw .i64 (i9 + 1)))] (W20 a1 l12) ?_))))))
   exact ih_l10 l12 b13 (iw .i64 (i9 + 1))
def zcc (n : Nat) (a0 : (List Thing)) (a1 : Thing) : Nat → (List Thing) → Bool → Int → Option (List Thing)
 | 0, _, _, _ => none
 | m + 1, l7, b8, i9 =>
  if decide (i9 < ((a0).length : Int)) then
   if !(b8) then
    (ix a0 i9).bind fun (x11 : Thing) =>
    if decide (a1.ID ≤ x11.ID) then
     if ((l7).length + 1) * 120 ≤ zae ∧ (l7).length + 1 ≤ zae then
      zfo n a0 a1 i9 (zcc n a0 a1 m) (l7 ++ [a1]) true
     else none
    else
     zfo n a0 a1 i9 (zcc n a0 a1 m) l7 b8
   else
    zfo n a0 a1 i9 (zcc n a0 a1 m) l7 b8
  else
   if !(b8) then
    if ((l7).length + 1) * 120 ≤ zae ∧ (l7).length + 1 ≤ zae then
     some (l7 ++ [a1])
    else none
   else
    some l7
theorem F88_l10_ok (n : Nat) (a0 : (List Thing)) (a1 : Thing) : ∀ (m : Nat) (l7 : (List Thing)) (b8 : Bool) (i9 : Int), SimL Try.prog D (n + 8) m p88c26 (W40 a0 l7 b8 i9) (W20 a1 l7) (zcc n a0 a1 m l7 b8 i9) (QB 0 (QT Try.prog D (n + 8) p88c38 (QF false pc88_r 0 F88_e))) := by
 intro m_l10
 induction m_l10 with
 | zero => intro l7 b8 i9; exact SimL.zero'  rfl
 | succ m_l10 ih_l10 =>
  intro l7 b8 i9
  refine SimL.succ ?_
  unfold zcc
  refine Sim.seq (.seq (.rg (W40 a0 l7 b8 i9) (W20 a1 l7) (.ru 4 [] (.thenN (.cd _ ?_ ?_)))))
  ·refine Sim.skip (.thenN (.seq (.block (.seq (.sv 3 [] (.sp 16 _ ?_ ?_))))))
   ·refine SimI.rv 4 [] (.bn ⟨some 21, .iaddrS 11 19 20, some (16, true), [(19, .imm), (20, .imm)]⟩ (fun x11 => [(21, .one (.eptr (Thing.cod.enc x11) 0))]) (fun x11 => []) (fun x11 hr => pe (ei (c := Thing.cod) (k := .i64) hr)) (fun x11 => ?_))
    refine SimI.ru 4 [] (.thenN (.cd _ ?_ ?_))
    ·refine Sim.sv 3 [] (.gu ⟨some 29, .app 100005 54 11 120 26 28, none, []⟩ [(29, .one (.osl 100005 (0 + 1) 0 ((l7 ++ [a1])).length))] (W57 l7 a1) (fun hc => pe (zcx (c := Thing.cod) (g := 0) (l := l7) (a := a1) (by kernel_rfl) (by kernel_rfl) (by kernel_rfl) (by kernel_rfl) hc)) (.ru 1 [] (.thenN (.region0 (.ru 1 [] (.thenN (.pr [0, 3, 5, 6, 7] [3, 100005] [(false, 5, 0, 100005, 54, 11)] [(0, .one (vw Thing.cod a0)), (3, qp 3 0), (5, .one (.osl 100005 0 0 ((l7 ++ [a1])).length)), (6, qb true), (7, qj i9)] [(3, some (.cells (Thing.cells a1))), (100005, some (.arr 54 Thing.cod.sz 0 ((l7 ++ [a1])).length (zaa Thing.cod (l7 ++ [a1]))))] ?_)))))))
     exact F88_j14_ok n a0 a1 i9 (zcc n a0 a1 m_l10) m_l10 ih_l10 (l7 ++ [a1]) true
    ·refine Sim.skip (.thenN (.pr [0, 3, 5, 6, 7] [3, 100005] [(false, 5, 0, 100005, 54, 11)] (W40 a0 l7 b8 i9) (W20 a1 l7) ?_))
     exact F88_j14_ok n a0 a1 i9 (zcc n a0 a1 m_l10) m_l10 ih_l10 l7 b8
   ·refine SimI.ru 9 [] (.thenN (.cf (.skip (.thenN (.pr [0, 3, 5, 6, 7] [3, 100005] [(false, 5, 0, 100005, 54, 11)] (W40 a0 l7 b8 i9) (W20 a1 l7) ?_)))))
    exact F88_j14_ok n a0 a1 i9 (zcc n a0 a1 m_l10) m_l10 ih_l10 l7 b8
  ·refine Sim.exit (.thenX (.loopX (.blockX (.thenN (.seq (.su 2 [] (.cd _ ?_ ?_)))))))
   ·exact Sim.region0 (.rv 3 [] (.gu ⟨some 50, .app 100005 54 11 120 47 49, none, []⟩ [(50, .one (.osl 100005 (0 + 1) 0 ((l7 ++ [a1])).length))] (W57 l7 a1) (fun hc => pe (zcx (c := Thing.cod) (g := 0) (l := l7) (a := a1) (by kernel_rfl) (by kernel_rfl) (by kernel_rfl) (by kernel_rfl) hc)) (.ru 1 [] (.thenN (.su 2 [] (.ret (.fin (out_of (os := []) (zaq (zaw (c := Thing.cod) (k := 100005) (g := (0 + 1)) (el := 54) (l := (l7 ++ [a1])) (by kernel_rfl) (by kernel_rfl) (by kernel_rfl)) (zbe)) (by kernel_rfl) rfl (by kernel_rfl)))))))))
   ·exact Sim.skip (.thenN (.su 2 [] (.ret (.fin (out_of (os := []) (zaq (zaw (c := Thing.cod) (k := 100005) (g := 0) (el := 54) (l := l7) (by kernel_rfl) (by kernel_rfl) (by kernel_rfl)) (zbe)) (by kernel_rfl) rfl (by kernel_rfl))))))
def F88 (n : Nat) (a0 : (List Thing)) (a1 : Thing) : Option (List Thing) :=
 zcc n a0 a1 (n + 8) ([] : List Thing) false 0
theorem F88_ok (n : Nat) (a0 : (List Thing)) (a1 : Thing) : ∀ r, F88 n a0 a1 = some r → D 88 [.one (vw Thing.cod a0), .agg (Thing.cells a1)] [] = some (F88_e r) := by
 refine zan (D := D) (n := n + 8) (nt := 52) (rs := pc88_r) (c := p88c42) (L := [(0, .one (vw Thing.cod a0)), (1, .agg (Thing.cells a1))]) (M := []) (k := 0) rfl rfl rfl rfl rfl rfl rfl ?_
 unfold F88
 refine Sim.su 2 [(3, some (.cells (Thing.cells a1)))] (.su 1 [] (.su 1 [] (.seq (.su 1 [] (.block (.loop (.pr [0, 3, 5, 6, 7] [3, 100005] [(false, 5, 0, 100005, 54, 11)] [(0, .one (vw Thing.cod a0)), (3, qp 3 0), (5, .one (.osl 100005 0 0 (([] : List Thing)).length)), (6, qb false), (7, qj 0)] [(3, some (.cells (Thing.cells a1))), (100005, some (.arr 54 Thing.cod.sz 0 (([] : List Thing)).length (zaa Thing.cod ([] : List Thing))))] ?_)))))))
 exact F88_l10_ok n a0 a1 (n + 8) ([] : List Thing) false 0
end Go.Proofs.Ythdabpmcojmhhaa
