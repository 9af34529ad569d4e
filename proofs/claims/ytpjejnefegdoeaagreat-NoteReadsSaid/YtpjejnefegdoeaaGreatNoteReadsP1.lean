/- No condition. -/
import Derived.Test.YtpjejnefegdoeaaGreatNoteReadsP0
namespace Go.Proofs.YtpjejnefegdoeaaGreat
open Go Go.Rx
set_option maxRecDepth 100000
set_option linter.unusedVariables false
set_option linter.unusedSimpArgs false
set_option linter.unnecessarySimpa false
set_option linter.unnecessarySimpa false
def F86s0_e (a0 : Command) (a1 : ByteArray) (a2 : Int) : (Int × Command × Int) → PV × List Ob := fun r => (.one (li .i64 r.1), [.cells [.ptr 1000001 0, .ptr 1000001 16, .ptr 1000001 17], .cells (Command.cells r.2.1), .cells [.fn 84 [.ptr 1000003 0, .ptr 1000004 0]], .cells [ls a1], .cells [li .i64 r.2.2]])
def F86s0 (n : Nat) (a0 : Command) (a1 : ByteArray) (a2 : Int) : Option (Int × Command × Int) :=
 (F84s0 n a1 a2).bind fun (r1 : (Int × Int × Int)) =>
 if r1.2.1 != 0 then
  some (r1.2.1, a0, r1.2.2)
 else
  (F84s0 n a1 r1.2.2).bind fun (r2 : (Int × Int × Int)) =>
  if r2.2.1 != 0 then
   some (r2.2.1, (Command.mk (imin (imax r1.1 (-1000001)) 1000001) a0.ID a0.Which a0.To a0.At a0.F a0.Value a0.Client a0.Session a0.Rect), r2.2.2)
  else
   (F84s0 n a1 r2.2.2).bind fun (r3 : (Int × Int × Int)) =>
   if r3.2.1 != 0 then
    some (r3.2.1, (Command.mk (imin (imax r1.1 (-1000001)) 1000001) a0.ID a0.Which a0.To a0.At a0.F a0.Value (imin (imax r2.1 (-1000001)) 1000001) a0.Session a0.Rect), r3.2.2)
   else
    some (0, (Command.mk (imin (imax r1.1 (-1000001)) 1000001) a0.ID a0.Which a0.To a0.At a0.F a0.Value (imin (imax r2.1 (-1000001)) 1000001) (imin (imax r3.1 (-1000001)) 1000001) a0.Rect), r3.2.2)
theorem F86s0_ok (n : Nat) (a0 : Command) (a1 : ByteArray) (a2 : Int) : ∀ r, F86s0 n a0 a1 a2 = some r → D 86 [.one (.csl 1000000 1 0 3), .one (.ptr 1000002 0)] [.cells [.ptr 1000001 0, .ptr 1000001 16, .ptr 1000001 17], .cells (Command.cells a0), .cells [.fn 84 [.ptr 1000003 0, .ptr 1000004 0]], .cells [ls a1], .cells [li .i64 a2]] = some ((F86s0_e a0 a1 a2) r) := by
 refine fn_to (D := D) (n := n + 8) (nt := 28) (rs := pc86_r) (c := p86c32) (L := [(0, .one (.csl 1000000 1 0 3)), (1, qp 1000002 0)]) (M := [(1000000, some (.cells W65)), (1000001, some (.cells (Command.cells a0))), (1000002, some (.cells [.fn 84 W3])), (1000003, some (.cells [ls a1])), (1000004, some (.cells [lj a2]))]) (k := 5) rfl rfl rfl rfl rfl rfl rfl ?_
 unfold F86s0
 refine Sim.su 1 [] (.seq (.su 3 [] (.block (.loop (.succ (.seq (.rg W130 [(1000000, some (.cells W65)), (1000001, some (.cells (Command.cells a0))), (1000002, some (.cells [.fn 84 W3])), (1000003, some (.cells [ls a1])), (1000004, some (.cells [lj a2]))] (.ru 1 [] (.thenN (.seq (.ct (.skip (.thenN (.seq (.block (.su 3 [] (.sv 1 [] (.bn ⟨some 16, .gcallv false false W4 [] 15 [], none, []⟩ (fun r1 => (W33 r1)) (fun r1 => [(1000003, some (.cells [ls a1])), (1000004, some (.cells [lj r1.2.2]))]) (fun r1 hr => pe (gv (ks := [1000003, 1000004]) (ARGS := W25) (caps := W3) (F84s0_ok _ _ _ _ hr))) (fun r1 => ?_)))))))))))))))))))
 refine SimI.ru 5 [] (.thenN (.seq (.su 2 [] (.cd _ ?_ ?_))))
 ·exact Sim.su 2 [] (.ret (.thenR (.blockR (.thenR (.loopR (.blockR (.thenR .fn)))))))
 ·refine Sim.skip (.thenN (.region0 (.ru 6 [(1000001, some (.cells [lj (imin (imax r1.1 (-1000001)) 1000001), lj a0.ID, lj a0.Which, lj a0.To, lj a0.At.X, lj a0.At.Y, lj a0.F.a0.N, ls a0.F.a0.Text, lj a0.F.a1.N, ls a0.F.a1.Text, lj a0.F.a2.N, ls a0.F.a2.Text, lj a0.F.a3.N, ls a0.F.a3.Text, lj a0.Value.N, ls a0.Value.Text, lj a0.Client, lj a0.Session, lj a0.Rect.X0, lj a0.Rect.Y0, lj a0.Rect.X1, lj a0.Rect.Y1]))] (.blockN (.thenN (.region0 (.ru 2 [] (.loopN (.succ (.seq (.rg W131 [(1000000, some (.cells W65)), (1000001, some (.cells [lj (imin (imax r1.1 (-1000001)) 1000001), lj a0.ID, lj a0.Which, lj a0.To, lj a0.At.X, lj a0.At.Y, lj a0.F.a0.N, ls a0.F.a0.Text, lj a0.F.a1.N, ls a0.F.a1.Text, lj a0.F.a2.N, ls a0.F.a2.Text, lj a0.F.a3.N, ls a0.F.a3.Text, lj a0.Value.N, ls a0.Value.Text, lj a0.Client, lj a0.Session, lj a0.Rect.X0, lj a0.Rect.Y0, lj a0.Rect.X1, lj a0.Rect.Y1])), (1000002, some (.cells [.fn 84 W3])), (1000003, some (.cells [ls a1])), (1000004, some (.cells [lj r1.2.2]))] (.ru 1 [] (.thenN (.seq (.ct (.skip (.thenN (.seq (.block (.su 3 [] (.sv 1 [] (.bn ⟨some 16, .gcallv false false W4 [] 15 [], none, []⟩ (fun r2 => (W33 r2)) (fun r2 => [(1000003, some (.cells [ls a1])), (1000004, some (.cells [lj r2.2.2]))]) (fun r2 hr => pe (gv (ks := [1000003, 1000004]) (ARGS := W25) (caps := W3) (F84s0_ok _ _ _ _ hr))) (fun r2 => ?_)))))))))))))))))))))))
  refine SimI.ru 5 [] (.thenN (.seq (.su 2 [] (.cd _ ?_ ?_))))
  ·exact Sim.su 2 [] (.ret (.thenR (.blockR (.thenR (.loopR (.blockR (.thenR .fn)))))))
  ·refine Sim.skip (.thenN (.region0 (.ru 6 [(1000001, some (.cells [lj (imin (imax r1.1 (-1000001)) 1000001), lj a0.ID, lj a0.Which, lj a0.To, lj a0.At.X, lj a0.At.Y, lj a0.F.a0.N, ls a0.F.a0.Text, lj a0.F.a1.N, ls a0.F.a1.Text, lj a0.F.a2.N, ls a0.F.a2.Text, lj a0.F.a3.N, ls a0.F.a3.Text, lj a0.Value.N, ls a0.Value.Text, lj (imin (imax r2.1 (-1000001)) 1000001), lj a0.Session, lj a0.Rect.X0, lj a0.Rect.Y0, lj a0.Rect.X1, lj a0.Rect.Y1]))] (.blockN (.thenN (.region0 (.ru 2 [] (.loopN (.succ (.seq (.rg W132 [(1000000, some (.cells W65)), (1000001, some (.cells [lj (imin (imax r1.1 (-1000001)) 1000001), lj a0.ID, lj a0.Which, lj a0.To, lj a0.At.X, lj a0.At.Y, lj a0.F.a0.N, ls a0.F.a0.Text, lj a0.F.a1.N, ls a0.F.a1.Text, lj a0.F.a2.N, ls a0.F.a2.Text, lj a0.F.a3.N, ls a0.F.a3.Text, lj a0.Value.N, ls a0.Value.Text, lj (imin (imax r2.1 (-1000001)) 1000001), lj a0.Session, lj a0.Rect.X0, lj a0.Rect.Y0, lj a0.Rect.X1, lj a0.Rect.Y1])), (1000002, some (.cells [.fn 84 W3])), (1000003, some (.cells [ls a1])), (1000004, some (.cells [lj r2.2.2]))] (.ru 1 [] (.thenN (.seq (.ct (.skip (.thenN (.seq (.block (.su 3 [] (.sv 1 [] (.bn ⟨some 16, .gcallv false false W4 [] 15 [], none, []⟩ (fun r3 => (W33 r3)) (fun r3 => [(1000003, some (.cells [ls a1])), (1000004, some (.cells [lj r3.2.2]))]) (fun r3 hr => pe (gv (ks := [1000003, 1000004]) (ARGS := W25) (caps := W3) (F84s0_ok _ _ _ _ hr))) (fun r3 => ?_)))))))))))))))))))))))
   refine SimI.ru 5 [] (.thenN (.seq (.su 2 [] (.cd _ ?_ ?_))))
   ·exact Sim.su 2 [] (.ret (.thenR (.blockR (.thenR (.loopR (.blockR (.thenR .fn)))))))
   ·exact Sim.skip (.thenN (.region0 (.ru 6 [(1000001, some (.cells [lj (imin (imax r1.1 (-1000001)) 1000001), lj a0.ID, lj a0.Which, lj a0.To, lj a0.At.X, lj a0.At.Y, lj a0.F.a0.N, ls a0.F.a0.Text, lj a0.F.a1.N, ls a0.F.a1.Text, lj a0.F.a2.N, ls a0.F.a2.Text, lj a0.F.a3.N, ls a0.F.a3.Text, lj a0.Value.N, ls a0.Value.Text, lj (imin (imax r2.1 (-1000001)) 1000001), lj (imin (imax r3.1 (-1000001)) 1000001), lj a0.Rect.X0, lj a0.Rect.Y0, lj a0.Rect.X1, lj a0.Rect.Y1]))] (.blockN (.thenN (.region0 (.ru 2 [] (.loopN (.succ (.seq (.rg W133 [(1000000, some (.cells W65)), (1000001, some (.cells [lj (imin (imax r1.1 (-1000001)) 1000001), lj a0.ID, lj a0.Which, lj a0.To, lj a0.At.X, lj a0.At.Y, lj a0.F.a0.N, ls a0.F.a0.Text, lj a0.F.a1.N, ls a0.F.a1.Text, lj a0.F.a2.N, ls a0.F.a2.Text, lj a0.F.a3.N, ls a0.F.a3.Text, lj a0.Value.N, ls a0.Value.Text, lj (imin (imax r2.1 (-1000001)) 1000001), lj (imin (imax r3.1 (-1000001)) 1000001), lj a0.Rect.X0, lj a0.Rect.Y0, lj a0.Rect.X1, lj a0.Rect.Y1])), (1000002, some (.cells [.fn 84 W3])), (1000003, some (.cells [ls a1])), (1000004, some (.cells [lj r3.2.2]))] (.ru 1 [] (.thenN (.seq (.cf (.exit (.thenX (.loopX (.blockX (.thenN (.su 1 [] (.ret .fn))))))))))))))))))))))
def F86s1_e (a0 : Command) (a1 : ByteArray) (a2 : Int) : (Int × Command × Int) → PV × List Ob := fun r => (.one (li .i64 r.1), [.cells [.ptr 1000001 18, .ptr 1000001 19, .ptr 1000001 20, .ptr 1000001 21], .cells (Command.cells r.2.1), .cells [.fn 84 [.ptr 1000003 0, .ptr 1000004 0]], .cells [ls a1], .cells [li .i64 r.2.2]])
def F86s1 (n : Nat) (a0 : Command) (a1 : ByteArray) (a2 : Int) : Option (Int × Command × Int) :=
 (F84s0 n a1 a2).bind fun (r1 : (Int × Int × Int)) =>
 if r1.2.1 != 0 then
  some (r1.2.1, a0, r1.2.2)
 else
  (F84s0 n a1 r1.2.2).bind fun (r2 : (Int × Int × Int)) =>
  if r2.2.1 != 0 then
   some (r2.2.1, (Command.mk a0.Kind a0.ID a0.Which a0.To a0.At a0.F a0.Value a0.Client a0.Session (Rect.mk (imin (imax r1.1 (-1000001)) 1000001) a0.Rect.Y0 a0.Rect.X1 a0.Rect.Y1)), r2.2.2)
  else
   (F84s0 n a1 r2.2.2).bind fun (r3 : (Int × Int × Int)) =>
   if r3.2.1 != 0 then
    some (r3.2.1, (Command.mk a0.Kind a0.ID a0.Which a0.To a0.At a0.F a0.Value a0.Client a0.Session (Rect.mk (imin (imax r1.1 (-1000001)) 1000001) (imin (imax r2.1 (-1000001)) 1000001) a0.Rect.X1 a0.Rect.Y1)), r3.2.2)
   else
    (F84s0 n a1 r3.2.2).bind fun (r4 : (Int × Int × Int)) =>
    if r4.2.1 != 0 then
     some (r4.2.1, (Command.mk a0.Kind a0.ID a0.Which a0.To a0.At a0.F a0.Value a0.Client a0.Session (Rect.mk (imin (imax r1.1 (-1000001)) 1000001) (imin (imax r2.1 (-1000001)) 1000001) (imin (imax r3.1 (-1000001)) 1000001) a0.Rect.Y1)), r4.2.2)
    else
     some (0, (Command.mk a0.Kind a0.ID a0.Which a0.To a0.At a0.F a0.Value a0.Client a0.Session (Rect.mk (imin (imax r1.1 (-1000001)) 1000001) (imin (imax r2.1 (-1000001)) 1000001) (imin (imax r3.1 (-1000001)) 1000001) (imin (imax r4.1 (-1000001)) 1000001))), r4.2.2)
theorem F86s1_ok (n : Nat) (a0 : Command) (a1 : ByteArray) (a2 : Int) : ∀ r, F86s1 n a0 a1 a2 = some r → D 86 [.one (.csl 1000000 1 0 4), .one (.ptr 1000002 0)] [.cells [.ptr 1000001 18, .ptr 1000001 19, .ptr 1000001 20, .ptr 1000001 21], .cells (Command.cells a0), .cells [.fn 84 [.ptr 1000003 0, .ptr 1000004 0]], .cells [ls a1], .cells [li .i64 a2]] = some ((F86s1_e a0 a1 a2) r) := by
 refine fn_to (D := D) (n := n + 8) (nt := 28) (rs := pc86_r) (c := p86c32) (L := [(0, .one (.csl 1000000 1 0 4)), (1, qp 1000002 0)]) (M := [(1000000, some (.cells W39)), (1000001, some (.cells (Command.cells a0))), (1000002, some (.cells [.fn 84 W3])), (1000003, some (.cells [ls a1])), (1000004, some (.cells [lj a2]))]) (k := 5) rfl rfl rfl rfl rfl rfl rfl ?_
 unfold F86s1
 refine Sim.su 1 [] (.seq (.su 3 [] (.block (.loop (.succ (.seq (.rg [(1, qp 1000002 0), (8, .one (.csl 1000000 1 0 4)), (9, qj 4), (10, qj 0)] [(1000000, some (.cells W39)), (1000001, some (.cells (Command.cells a0))), (1000002, some (.cells [.fn 84 W3])), (1000003, some (.cells [ls a1])), (1000004, some (.cells [lj a2]))] (.ru 1 [] (.thenN (.seq (.ct (.skip (.thenN (.seq (.block (.su 3 [] (.sv 1 [] (.bn ⟨some 16, .gcallv false false W4 [] 15 [], none, []⟩ (fun r1 => (W33 r1)) (fun r1 => [(1000003, some (.cells [ls a1])), (1000004, some (.cells [lj r1.2.2]))]) (fun r1 hr => pe (gv (ks := [1000003, 1000004]) (ARGS := W25) (caps := W3) (F84s0_ok _ _ _ _ hr))) (fun r1 => ?_)))))))))))))))))))
 refine SimI.ru 5 [] (.thenN (.seq (.su 2 [] (.cd _ ?_ ?_))))
 ·exact Sim.su 2 [] (.ret (.thenR (.blockR (.thenR (.loopR (.blockR (.thenR .fn)))))))
 ·refine Sim.skip (.thenN (.region0 (.ru 6 [(1000001, some (.cells [lj a0.Kind, lj a0.ID, lj a0.Which, lj a0.To, lj a0.At.X, lj a0.At.Y, lj a0.F.a0.N, ls a0.F.a0.Text, lj a0.F.a1.N, ls a0.F.a1.Text, lj a0.F.a2.N, ls a0.F.a2.Text, lj a0.F.a3.N, ls a0.F.a3.Text, lj a0.Value.N, ls a0.Value.Text, lj a0.Client, lj a0.Session, lj (imin (imax r1.1 (-1000001)) 1000001), lj a0.Rect.Y0, lj a0.Rect.X1, lj a0.Rect.Y1]))] (.blockN (.thenN (.region0 (.ru 2 [] (.loopN (.succ (.seq (.rg [(1, qp 1000002 0), (8, .one (.csl 1000000 1 0 4)), (9, qj 4), (10, qj 1)] [(1000000, some (.cells W39)), (1000001, some (.cells [lj a0.Kind, lj a0.ID, lj a0.Which, lj a0.To, lj a0.At.X, lj a0.At.Y, lj a0.F.a0.N, ls a0.F.a0.Text, lj a0.F.a1.N, ls a0.F.a1.Text, lj a0.F.a2.N, ls a0.F.a2.Text, lj a0.F.a3.N, ls a0.F.a3.Text, lj a0.Value.N, ls a0.Value.Text, lj a0.Client, lj a0.Session, lj (imin (imax r1.1 (-1000001)) 1000001), lj a0.Rect.Y0, lj a0.Rect.X1, lj a0.Rect.Y1])), (1000002, some (.cells [.fn 84 W3])), (1000003, some (.cells [ls a1])), (1000004, some (.cells [lj r1.2.2]))] (.ru 1 [] (.thenN (.seq (.ct (.skip (.thenN (.seq (.block (.su 3 [] (.sv 1 [] (.bn ⟨some 16, .gcallv false false W4 [] 15 [], none, []⟩ (fun r2 => (W33 r2)) (fun r2 => [(1000003, some (.cells [ls a1])), (1000004, some (.cells [lj r2.2.2]))]) (fun r2 hr => pe (gv (ks := [1000003, 1000004]) (ARGS := W25) (caps := W3) (F84s0_ok _ _ _ _ hr))) (fun r2 => ?_)))))))))))))))))))))))
  refine SimI.ru 5 [] (.thenN (.seq (.su 2 [] (.cd _ ?_ ?_))))
  ·exact Sim.su 2 [] (.ret (.thenR (.blockR (.thenR (.loopR (.blockR (.thenR .fn)))))))
  ·refine Sim.skip (.thenN (.region0 (.ru 6 [(1000001, some (.cells [lj a0.Kind, lj a0.ID, lj a0.Which, lj a0.To, lj a0.At.X, lj a0.At.Y, lj a0.F.a0.N, ls a0.F.a0.Text, lj a0.F.a1.N, ls a0.F.a1.Text, lj a0.F.a2.N, ls a0.F.a2.Text, lj a0.F.a3.N, ls a0.F.a3.Text, lj a0.Value.N, ls a0.Value.Text, lj a0.Client, lj a0.Session, lj (imin (imax r1.1 (-1000001)) 1000001), lj (imin (imax r2.1 (-1000001)) 1000001), lj a0.Rect.X1, lj a0.Rect.Y1]))] (.blockN (.thenN (.region0 (.ru 2 [] (.loopN (.succ (.seq (.rg [(1, qp 1000002 0), (8, .one (.csl 1000000 1 0 4)), (9, qj 4), (10, qj 2)] [(1000000, some (.cells W39)), (1000001, some (.cells [lj a0.Kind, lj a0.ID, lj a0.Which, lj a0.To, lj a0.At.X, lj a0.At.Y, lj a0.F.a0.N, ls a0.F.a0.Text, lj a0.F.a1.N, ls a0.F.a1.Text, lj a0.F.a2.N, ls a0.F.a2.Text, lj a0.F.a3.N, ls a0.F.a3.Text, lj a0.Value.N, ls a0.Value.Text, lj a0.Client, lj a0.Session, lj (imin (imax r1.1 (-1000001)) 1000001), lj (imin (imax r2.1 (-1000001)) 1000001), lj a0.Rect.X1, lj a0.Rect.Y1])), (1000002, some (.cells [.fn 84 W3])), (1000003, some (.cells [ls a1])), (1000004, some (.cells [lj r2.2.2]))] (.ru 1 [] (.thenN (.seq (.ct (.skip (.thenN (.seq (.block (.su 3 [] (.sv 1 [] (.bn ⟨some 16, .gcallv false false W4 [] 15 [], none, []⟩ (fun r3 => (W33 r3)) (fun r3 => [(1000003, some (.cells [ls a1])), (1000004, some (.cells [lj r3.2.2]))]) (fun r3 hr => pe (gv (ks := [1000003, 1000004]) (ARGS := W25) (caps := W3) (F84s0_ok _ _ _ _ hr))) (fun r3 => ?_)))))))))))))))))))))))
   refine SimI.ru 5 [] (.thenN (.seq (.su 2 [] (.cd _ ?_ ?_))))
   ·exact Sim.su 2 [] (.ret (.thenR (.blockR (.thenR (.loopR (.blockR (.thenR .fn)))))))
   ·refine Sim.skip (.thenN (.region0 (.ru 6 [(1000001, some (.cells [lj a0.Kind, lj a0.ID, lj a0.Which, lj a0.To, lj a0.At.X, lj a0.At.Y, lj a0.F.a0.N, ls a0.F.a0.Text, lj a0.F.a1.N, ls a0.F.a1.Text, lj a0.F.a2.N, ls a0.F.a2.Text, lj a0.F.a3.N, ls a0.F.a3.Text, lj a0.Value.N, ls a0.Value.Text, lj a0.Client, lj a0.Session, lj (imin (imax r1.1 (-1000001)) 1000001), lj (imin (imax r2.1 (-1000001)) 1000001), lj (imin (imax r3.1 (-1000001)) 1000001), lj a0.Rect.Y1]))] (.blockN (.thenN (.region0 (.ru 2 [] (.loopN (.succ (.seq (.rg [(1, qp 1000002 0), (8, .one (.csl 1000000 1 0 4)), (9, qj 4), (10, qj 3)] [(1000000, some (.cells W39)), (1000001, some (.cells [lj a0.Kind, lj a0.ID, lj a0.Which, lj a0.To, lj a0.At.X, lj a0.At.Y, lj a0.F.a0.N, ls a0.F.a0.Text, lj a0.F.a1.N, ls a0.F.a1.Text, lj a0.F.a2.N, ls a0.F.a2.Text, lj a0.F.a3.N, ls a0.F.a3.Text, lj a0.Value.N, ls a0.Value.Text, lj a0.Client, lj a0.Session, lj (imin (imax r1.1 (-1000001)) 1000001), lj (imin (imax r2.1 (-1000001)) 1000001), lj (imin (imax r3.1 (-1000001)) 1000001), lj a0.Rect.Y1])), (1000002, some (.cells [.fn 84 W3])), (1000003, some (.cells [ls a1])), (1000004, some (.cells [lj r3.2.2]))] (.ru 1 [] (.thenN (.seq (.ct (.skip (.thenN (.seq (.block (.su 3 [] (.sv 1 [] (.bn ⟨some 16, .gcallv false false W4 [] 15 [], none, []⟩ (fun r4 => (W33 r4)) (fun r4 => [(1000003, some (.cells [ls a1])), (1000004, some (.cells [lj r4.2.2]))]) (fun r4 hr => pe (gv (ks := [1000003, 1000004]) (ARGS := W25) (caps := W3) (F84s0_ok _ _ _ _ hr))) (fun r4 => ?_)))))))))))))))))))))))
    refine SimI.ru 5 [] (.thenN (.seq (.su 2 [] (.cd _ ?_ ?_))))
    ·exact Sim.su 2 [] (.ret (.thenR (.blockR (.thenR (.loopR (.blockR (.thenR .fn)))))))
    ·exact Sim.skip (.thenN (.region0 (.ru 6 [(1000001, some (.cells [lj a0.Kind, lj a0.ID, lj a0.Which, lj a0.To, lj a0.At.X, lj a0.At.Y, lj a0.F.a0.N, ls a0.F.a0.Text, lj a0.F.a1.N, ls a0.F.a1.Text, lj a0.F.a2.N, ls a0.F.a2.Text, lj a0.F.a3.N, ls a0.F.a3.Text, lj a0.Value.N, ls a0.Value.Text, lj a0.Client, lj a0.Session, lj (imin (imax r1.1 (-1000001)) 1000001), lj (imin (imax r2.1 (-1000001)) 1000001), lj (imin (imax r3.1 (-1000001)) 1000001), lj (imin (imax r4.1 (-1000001)) 1000001)]))] (.blockN (.thenN (.region0 (.ru 2 [] (.loopN (.succ (.seq (.rg [(1, qp 1000002 0), (8, .one (.csl 1000000 1 0 4)), (9, qj 4), (10, qj 4)] [(1000000, some (.cells W39)), (1000001, some (.cells [lj a0.Kind, lj a0.ID, lj a0.Which, lj a0.To, lj a0.At.X, lj a0.At.Y, lj a0.F.a0.N, ls a0.F.a0.Text, lj a0.F.a1.N, ls a0.F.a1.Text, lj a0.F.a2.N, ls a0.F.a2.Text, lj a0.F.a3.N, ls a0.F.a3.Text, lj a0.Value.N, ls a0.Value.Text, lj a0.Client, lj a0.Session, lj (imin (imax r1.1 (-1000001)) 1000001), lj (imin (imax r2.1 (-1000001)) 1000001), lj (imin (imax r3.1 (-1000001)) 1000001), lj (imin (imax r4.1 (-1000001)) 1000001)])), (1000002, some (.cells [.fn 84 W3])), (1000003, some (.cells [ls a1])), (1000004, some (.cells [lj r4.2.2]))] (.ru 1 [] (.thenN (.seq (.cf (.exit (.thenX (.loopX (.blockX (.thenN (.su 1 [] (.ret .fn))))))))))))))))))))))
def F86s2_e (a0 : Command) (a1 : ByteArray) (a2 : Int) : (Int × Command × Int) → PV × List Ob := fun r => (.one (li .i64 r.1), [.cells [.ptr 1000001 2, .ptr 1000001 3], .cells (Command.cells r.2.1), .cells [.fn 84 [.ptr 1000003 0, .ptr 1000004 0]], .cells [ls a1], .cells [li .i64 r.2.2]])
def F86s2 (n : Nat) (a0 : Command) (a1 : ByteArray) (a2 : Int) : Option (Int × Command × Int) :=
 (F84s0 n a1 a2).bind fun (r1 : (Int × Int × Int)) =>
 if r1.2.1 != 0 then
  some (r1.2.1, a0, r1.2.2)
 else
  (F84s0 n a1 r1.2.2).bind fun (r2 : (Int × Int × Int)) =>
  if r2.2.1 != 0 then
   some (r2.2.1, (Command.mk a0.Kind a0.ID (imin (imax r1.1 (-1000001)) 1000001) a0.To a0.At a0.F a0.Value a0.Client a0.Session a0.Rect), r2.2.2)
  else
   some (0, (Command.mk a0.Kind a0.ID (imin (imax r1.1 (-1000001)) 1000001) (imin (imax r2.1 (-1000001)) 1000001) a0.At a0.F a0.Value a0.Client a0.Session a0.Rect), r2.2.2)
theorem F86s2_ok (n : Nat) (a0 : Command) (a1 : ByteArray) (a2 : Int) : ∀ r, F86s2 n a0 a1 a2 = some r → D 86 [.one (.csl 1000000 1 0 2), .one (.ptr 1000002 0)] [.cells [.ptr 1000001 2, .ptr 1000001 3], .cells (Command.cells a0), .cells [.fn 84 [.ptr 1000003 0, .ptr 1000004 0]], .cells [ls a1], .cells [li .i64 a2]] = some ((F86s2_e a0 a1 a2) r) := by
 refine fn_to (D := D) (n := n + 8) (nt := 28) (rs := pc86_r) (c := p86c32) (L := W107) (M := [(1000000, some (.cells W108)), (1000001, some (.cells (Command.cells a0))), (1000002, some (.cells [.fn 84 W3])), (1000003, some (.cells [ls a1])), (1000004, some (.cells [lj a2]))]) (k := 5) rfl rfl rfl rfl rfl rfl rfl ?_
 unfold F86s2
 refine Sim.su 1 [] (.seq (.su 3 [] (.block (.loop (.succ (.seq (.rg W82 [(1000000, some (.cells W108)), (1000001, some (.cells (Command.cells a0))), (1000002, some (.cells [.fn 84 W3])), (1000003, some (.cells [ls a1])), (1000004, some (.cells [lj a2]))] (.ru 1 [] (.thenN (.seq (.ct (.skip (.thenN (.seq (.block (.su 3 [] (.sv 1 [] (.bn ⟨some 16, .gcallv false false W4 [] 15 [], none, []⟩ (fun r1 => (W33 r1)) (fun r1 => [(1000003, some (.cells [ls a1])), (1000004, some (.cells [lj r1.2.2]))]) (fun r1 hr => pe (gv (ks := [1000003, 1000004]) (ARGS := W25) (caps := W3) (F84s0_ok _ _ _ _ hr))) (fun r1 => ?_)))))))))))))))))))
 refine SimI.ru 5 [] (.thenN (.seq (.su 2 [] (.cd _ ?_ ?_))))
 ·exact Sim.su 2 [] (.ret (.thenR (.blockR (.thenR (.loopR (.blockR (.thenR .fn)))))))
 ·refine Sim.skip (.thenN (.region0 (.ru 6 [(1000001, some (.cells [lj a0.Kind, lj a0.ID, lj (imin (imax r1.1 (-1000001)) 1000001), lj a0.To, lj a0.At.X, lj a0.At.Y, lj a0.F.a0.N, ls a0.F.a0.Text, lj a0.F.a1.N, ls a0.F.a1.Text, lj a0.F.a2.N, ls a0.F.a2.Text, lj a0.F.a3.N, ls a0.F.a3.Text, lj a0.Value.N, ls a0.Value.Text, lj a0.Client, lj a0.Session, lj a0.Rect.X0, lj a0.Rect.Y0, lj a0.Rect.X1, lj a0.Rect.Y1]))] (.blockN (.thenN (.region0 (.ru 2 [] (.loopN (.succ (.seq (.rg W83 [(1000000, some (.cells W108)), (1000001, some (.cells [lj a0.Kind, lj a0.ID, lj (imin (imax r1.1 (-1000001)) 1000001), lj a0.To, lj a0.At.X, lj a0.At.Y, lj a0.F.a0.N, ls a0.F.a0.Text, lj a0.F.a1.N, ls a0.F.a1.Text, lj a0.F.a2.N, ls a0.F.a2.Text, lj a0.F.a3.N, ls a0.F.a3.Text, lj a0.Value.N, ls a0.Value.Text, lj a0.Client, lj a0.Session, lj a0.Rect.X0, lj a0.Rect.Y0, lj a0.Rect.X1, lj a0.Rect.Y1])), (1000002, some (.cells [.fn 84 W3])), (1000003, some (.cells [ls a1])), (1000004, some (.cells [lj r1.2.2]))] (.ru 1 [] (.thenN (.seq (.ct (.skip (.thenN (.seq (.block (.su 3 [] (.sv 1 [] (.bn ⟨some 16, .gcallv false false W4 [] 15 [], none, []⟩ (fun r2 => (W33 r2)) (fun r2 => [(1000003, some (.cells [ls a1])), (1000004, some (.cells [lj r2.2.2]))]) (fun r2 hr => pe (gv (ks := [1000003, 1000004]) (ARGS := W25) (caps := W3) (F84s0_ok _ _ _ _ hr))) (fun r2 => ?_)))))))))))))))))))))))
  refine SimI.ru 5 [] (.thenN (.seq (.su 2 [] (.cd _ ?_ ?_))))
  ·exact Sim.su 2 [] (.ret (.thenR (.blockR (.thenR (.loopR (.blockR (.thenR .fn)))))))
  ·exact Sim.skip (.thenN (.region0 (.ru 6 [(1000001, some (.cells [lj a0.Kind, lj a0.ID, lj (imin (imax r1.1 (-1000001)) 1000001), lj (imin (imax r2.1 (-1000001)) 1000001), lj a0.At.X, lj a0.At.Y, lj a0.F.a0.N, ls a0.F.a0.Text, lj a0.F.a1.N, ls a0.F.a1.Text, lj a0.F.a2.N, ls a0.F.a2.Text, lj a0.F.a3.N, ls a0.F.a3.Text, lj a0.Value.N, ls a0.Value.Text, lj a0.Client, lj a0.Session, lj a0.Rect.X0, lj a0.Rect.Y0, lj a0.Rect.X1, lj a0.Rect.Y1]))] (.blockN (.thenN (.region0 (.ru 2 [] (.loopN (.succ (.seq (.rg W84 [(1000000, some (.cells W108)), (1000001, some (.cells [lj a0.Kind, lj a0.ID, lj (imin (imax r1.1 (-1000001)) 1000001), lj (imin (imax r2.1 (-1000001)) 1000001), lj a0.At.X, lj a0.At.Y, lj a0.F.a0.N, ls a0.F.a0.Text, lj a0.F.a1.N, ls a0.F.a1.Text, lj a0.F.a2.N, ls a0.F.a2.Text, lj a0.F.a3.N, ls a0.F.a3.Text, lj a0.Value.N, ls a0.Value.Text, lj a0.Client, lj a0.Session, lj a0.Rect.X0, lj a0.Rect.Y0, lj a0.Rect.X1, lj a0.Rect.Y1])), (1000002, some (.cells [.fn 84 W3])), (1000003, some (.cells [ls a1])), (1000004, some (.cells [lj r2.2.2]))] (.ru 1 [] (.thenN (.seq (.cf (.exit (.thenX (.loopX (.blockX (.thenN (.su 1 [] (.ret .fn))))))))))))))))))))))
def F86s3_e (a0 : Command) (a1 : ByteArray) (a2 : Int) : (Int × Command × Int) → PV × List Ob := fun r => (.one (li .i64 r.1), [.cells [.ptr 1000001 1], .cells (Command.cells r.2.1), .cells [.fn 84 [.ptr 1000003 0, .ptr 1000004 0]], .cells [ls a1], .cells [li .i64 r.2.2]])
def F86s3 (n : Nat) (a0 : Command) (a1 : ByteArray) (a2 : Int) : Option (Int × Command × Int) :=
 (F84s0 n a1 a2).bind fun (r1 : (Int × Int × Int)) =>
 if r1.2.1 != 0 then
  some (r1.2.1, a0, r1.2.2)
 else
  some (0, (Command.mk a0.Kind (imin (imax r1.1 (-1000001)) 1000001) a0.Which a0.To a0.At a0.F a0.Value a0.Client a0.Session a0.Rect), r1.2.2)
theorem F86s3_ok (n : Nat) (a0 : Command) (a1 : ByteArray) (a2 : Int) : ∀ r, F86s3 n a0 a1 a2 = some r → D 86 [.one (.csl 1000000 1 0 1), .one (.ptr 1000002 0)] [.cells [.ptr 1000001 1], .cells (Command.cells a0), .cells [.fn 84 [.ptr 1000003 0, .ptr 1000004 0]], .cells [ls a1], .cells [li .i64 a2]] = some ((F86s3_e a0 a1 a2) r) := by
 refine fn_to (D := D) (n := n + 8) (nt := 28) (rs := pc86_r) (c := p86c32) (L := [(0, .one (.csl 1000000 1 0 1)), (1, qp 1000002 0)]) (M := [(1000000, some (.cells [.ptr 1000001 1])), (1000001, some (.cells (Command.cells a0))), (1000002, some (.cells [.fn 84 W3])), (1000003, some (.cells [ls a1])), (1000004, some (.cells [lj a2]))]) (k := 5) rfl rfl rfl rfl rfl rfl rfl ?_
 unfold F86s3
 refine Sim.su 1 [] (.seq (.su 3 [] (.block (.loop (.succ (.seq (.rg [(1, qp 1000002 0), (8, .one (.csl 1000000 1 0 1)), (9, qj 1), (10, qj 0)] [(1000000, some (.cells [.ptr 1000001 1])), (1000001, some (.cells (Command.cells a0))), (1000002, some (.cells [.fn 84 W3])), (1000003, some (.cells [ls a1])), (1000004, some (.cells [lj a2]))] (.ru 1 [] (.thenN (.seq (.ct (.skip (.thenN (.seq (.block (.su 3 [] (.sv 1 [] (.bn ⟨some 16, .gcallv false false W4 [] 15 [], none, []⟩ (fun r1 => (W33 r1)) (fun r1 => [(1000003, some (.cells [ls a1])), (1000004, some (.cells [lj r1.2.2]))]) (fun r1 hr => pe (gv (ks := [1000003, 1000004]) (ARGS := W25) (caps := W3) (F84s0_ok _ _ _ _ hr))) (fun r1 => ?_)))))))))))))))))))
 refine SimI.ru 5 [] (.thenN (.seq (.su 2 [] (.cd _ ?_ ?_))))
 ·exact Sim.su 2 [] (.ret (.thenR (.blockR (.thenR (.loopR (.blockR (.thenR .fn)))))))
 ·exact Sim.skip (.thenN (.region0 (.ru 6 [(1000001, some (.cells [lj a0.Kind, lj (imin (imax r1.1 (-1000001)) 1000001), lj a0.Which, lj a0.To, lj a0.At.X, lj a0.At.Y, lj a0.F.a0.N, ls a0.F.a0.Text, lj a0.F.a1.N, ls a0.F.a1.Text, lj a0.F.a2.N, ls a0.F.a2.Text, lj a0.F.a3.N, ls a0.F.a3.Text, lj a0.Value.N, ls a0.Value.Text, lj a0.Client, lj a0.Session, lj a0.Rect.X0, lj a0.Rect.Y0, lj a0.Rect.X1, lj a0.Rect.Y1]))] (.blockN (.thenN (.region0 (.ru 2 [] (.loopN (.succ (.seq (.rg [(1, qp 1000002 0), (8, .one (.csl 1000000 1 0 1)), (9, qj 1), (10, qj 1)] [(1000000, some (.cells [.ptr 1000001 1])), (1000001, some (.cells [lj a0.Kind, lj (imin (imax r1.1 (-1000001)) 1000001), lj a0.Which, lj a0.To, lj a0.At.X, lj a0.At.Y, lj a0.F.a0.N, ls a0.F.a0.Text, lj a0.F.a1.N, ls a0.F.a1.Text, lj a0.F.a2.N, ls a0.F.a2.Text, lj a0.F.a3.N, ls a0.F.a3.Text, lj a0.Value.N, ls a0.Value.Text, lj a0.Client, lj a0.Session, lj a0.Rect.X0, lj a0.Rect.Y0, lj a0.Rect.X1, lj a0.Rect.Y1])), (1000002, some (.cells [.fn 84 W3])), (1000003, some (.cells [ls a1])), (1000004, some (.cells [lj r1.2.2]))] (.ru 1 [] (.thenN (.seq (.cf (.exit (.thenX (.loopX (.blockX (.thenN (.su 1 [] (.ret .fn))))))))))))))))))))))
def F86s4_e (a0 : Command) (a1 : ByteArray) (a2 : Int) : (Int × Command × Int) → PV × List Ob := fun r => (.one (li .i64 r.1), [.cells [.ptr 1000001 1, .ptr 1000001 2], .cells (Command.cells r.2.1), .cells [.fn 84 [.ptr 1000003 0, .ptr 1000004 0]], .cells [ls a1], .cells [li .i64 r.2.2]])
def F86s4 (n : Nat) (a0 : Command) (a1 : ByteArray) (a2 : Int) : Option (Int × Command × Int) :=
 (F84s0 n a1 a2).bind fun (r1 : (Int × Int × Int)) =>
 if r1.2.1 != 0 then
  some (r1.2.1, a0, r1.2.2)
 else
  (F84s0 n a1 r1.2.2).bind fun (r2 : (Int × Int × Int)) =>
  if r2.2.1 != 0 then
   some (r2.2.1, (Command.mk a0.Kind (imin (imax r1.1 (-1000001)) 1000001) a0.Which a0.To a0.At a0.F a0.Value a0.Client a0.Session a0.Rect), r2.2.2)
  else
   some (0, (Command.mk a0.Kind (imin (imax r1.1 (-1000001)) 1000001) (imin (imax r2.1 (-1000001)) 1000001) a0.To a0.At a0.F a0.Value a0.Client a0.Session a0.Rect), r2.2.2)
theorem F86s4_ok (n : Nat) (a0 : Command) (a1 : ByteArray) (a2 : Int) : ∀ r, F86s4 n a0 a1 a2 = some r → D 86 [.one (.csl 1000000 1 0 2), .one (.ptr 1000002 0)] [.cells [.ptr 1000001 1, .ptr 1000001 2], .cells (Command.cells a0), .cells [.fn 84 [.ptr 1000003 0, .ptr 1000004 0]], .cells [ls a1], .cells [li .i64 a2]] = some ((F86s4_e a0 a1 a2) r) := by
 refine fn_to (D := D) (n := n + 8) (nt := 28) (rs := pc86_r) (c := p86c32) (L := W107) (M := [(1000000, some (.cells W109)), (1000001, some (.cells (Command.cells a0))), (1000002, some (.cells [.fn 84 W3])), (1000003, some (.cells [ls a1])), (1000004, some (.cells [lj a2]))]) (k := 5) rfl rfl rfl rfl rfl rfl rfl ?_
 unfold F86s4
 refine Sim.su 1 [] (.seq (.su 3 [] (.block (.loop (.succ (.seq (.rg W82 [(1000000, some (.cells W109)), (1000001, some (.cells (Command.cells a0))), (1000002, some (.cells [.fn 84 W3])), (1000003, some (.cells [ls a1])), (1000004, some (.cells [lj a2]))] (.ru 1 [] (.thenN (.seq (.ct (.skip (.thenN (.seq (.block (.su 3 [] (.sv 1 [] (.bn ⟨some 16, .gcallv false false W4 [] 15 [], none, []⟩ (fun r1 => (W33 r1)) (fun r1 => [(1000003, some (.cells [ls a1])), (1000004, some (.cells [lj r1.2.2]))]) (fun r1 hr => pe (gv (ks := [1000003, 1000004]) (ARGS := W25) (caps := W3) (F84s0_ok _ _ _ _ hr))) (fun r1 => ?_)))))))))))))))))))
 refine SimI.ru 5 [] (.thenN (.seq (.su 2 [] (.cd _ ?_ ?_))))
 ·exact Sim.su 2 [] (.ret (.thenR (.blockR (.thenR (.loopR (.blockR (.thenR .fn)))))))
 ·refine Sim.skip (.thenN (.region0 (.ru 6 [(1000001, some (.cells [lj a0.Kind, lj (imin (imax r1.1 (-1000001)) 1000001), lj a0.Which, lj a0.To, lj a0.At.X, lj a0.At.Y, lj a0.F.a0.N, ls a0.F.a0.Text, lj a0.F.a1.N, ls a0.F.a1.Text, lj a0.F.a2.N, ls a0.F.a2.Text, lj a0.F.a3.N, ls a0.F.a3.Text, lj a0.Value.N, ls a0.Value.Text, lj a0.Client, lj a0.Session, lj a0.Rect.X0, lj a0.Rect.Y0, lj a0.Rect.X1, lj a0.Rect.Y1]))] (.blockN (.thenN (.region0 (.ru 2 [] (.loopN (.succ (.seq (.rg W83 [(1000000, some (.cells W109)), (1000001, some (.cells [lj a0.Kind, lj (imin (imax r1.1 (-1000001)) 1000001), lj a0.Which, lj a0.To, lj a0.At.X, lj a0.At.Y, lj a0.F.a0.N, ls a0.F.a0.Text, lj a0.F.a1.N, ls a0.F.a1.Text, lj a0.F.a2.N, ls a0.F.a2.Text, lj a0.F.a3.N, ls a0.F.a3.Text, lj a0.Value.N, ls a0.Value.Text, lj a0.Client, lj a0.Session, lj a0.Rect.X0, lj a0.Rect.Y0, lj a0.Rect.X1, lj a0.Rect.Y1])), (1000002, some (.cells [.fn 84 W3])), (1000003, some (.cells [ls a1])), (1000004, some (.cells [lj r1.2.2]))] (.ru 1 [] (.thenN (.seq (.ct (.skip (.thenN (.seq (.block (.su 3 [] (.sv 1 [] (.bn ⟨some 16, .gcallv false false W4 [] 15 [], none, []⟩ (fun r2 => (W33 r2)) (fun r2 => [(1000003, some (.cells [ls a1])), (1000004, some (.cells [lj r2.2.2]))]) (fun r2 hr => pe (gv (ks := [1000003, 1000004]) (ARGS := W25) (caps := W3) (F84s0_ok _ _ _ _ hr))) (fun r2 => ?_)))))))))))))))))))))))
  refine SimI.ru 5 [] (.thenN (.seq (.su 2 [] (.cd _ ?_ ?_))))
  ·exact Sim.su 2 [] (.ret (.thenR (.blockR (.thenR (.loopR (.blockR (.thenR .fn)))))))
  ·exact Sim.skip (.thenN (.region0 (.ru 6 [(1000001, some (.cells [lj a0.Kind, lj (imin (imax r1.1 (-1000001)) 1000001), lj (imin (imax r2.1 (-1000001)) 1000001), lj a0.To, lj a0.At.X, lj a0.At.Y, lj a0.F.a0.N, ls a0.F.a0.Text, lj a0.F.a1.N, ls a0.F.a1.Text, lj a0.F.a2.N, ls a0.F.a2.Text, lj a0.F.a3.N, ls a0.F.a3.Text, lj a0.Value.N, ls a0.Value.Text, lj a0.Client, lj a0.Session, lj a0.Rect.X0, lj a0.Rect.Y0, lj a0.Rect.X1, lj a0.Rect.Y1]))] (.blockN (.thenN (.region0 (.ru 2 [] (.loopN (.succ (.seq (.rg W84 [(1000000, some (.cells W109)), (1000001, some (.cells [lj a0.Kind, lj (imin (imax r1.1 (-1000001)) 1000001), lj (imin (imax r2.1 (-1000001)) 1000001), lj a0.To, lj a0.At.X, lj a0.At.Y, lj a0.F.a0.N, ls a0.F.a0.Text, lj a0.F.a1.N, ls a0.F.a1.Text, lj a0.F.a2.N, ls a0.F.a2.Text, lj a0.F.a3.N, ls a0.F.a3.Text, lj a0.Value.N, ls a0.Value.Text, lj a0.Client, lj a0.Session, lj a0.Rect.X0, lj a0.Rect.Y0, lj a0.Rect.X1, lj a0.Rect.Y1])), (1000002, some (.cells [.fn 84 W3])), (1000003, some (.cells [ls a1])), (1000004, some (.cells [lj r2.2.2]))] (.ru 1 [] (.thenN (.seq (.cf (.exit (.thenX (.loopX (.blockX (.thenN (.su 1 [] (.ret .fn))))))))))))))))))))))
def F86s5_e (a0 : Command) (a1 : ByteArray) (a2 : Int) : (Int × Command × Int) → PV × List Ob := fun r => (.one (li .i64 r.1), [.cells [.ptr 1000001 1, .ptr 1000001 4, .ptr 1000001 5], .cells (Command.cells r.2.1), .cells [.fn 84 [.ptr 1000003 0, .ptr 1000004 0]], .cells [ls a1], .cells [li .i64 r.2.2]])
def F86s5 (n : Nat) (a0 : Command) (a1 : ByteArray) (a2 : Int) : Option (Int × Command × Int) :=
 (F84s0 n a1 a2).bind fun (r1 : (Int × Int × Int)) =>
 if r1.2.1 != 0 then
  some (r1.2.1, a0, r1.2.2)
 else
  (F84s0 n a1 r1.2.2).bind fun (r2 : (Int × Int × Int)) =>
  if r2.2.1 != 0 then
   some (r2.2.1, (Command.mk a0.Kind (imin (imax r1.1 (-1000001)) 1000001) a0.Which a0.To a0.At a0.F a0.Value a0.Client a0.Session a0.Rect), r2.2.2)
  else
   (F84s0 n a1 r2.2.2).bind fun (r3 : (Int × Int × Int)) =>
   if r3.2.1 != 0 then
    some (r3.2.1, (Command.mk a0.Kind (imin (imax r1.1 (-1000001)) 1000001) a0.Which a0.To (Point.mk (imin (imax r2.1 (-1000001)) 1000001) a0.At.Y) a0.F a0.Value a0.Client a0.Session a0.Rect), r3.2.2)
   else
    some (0, (Command.mk a0.Kind (imin (imax r1.1 (-1000001)) 1000001) a0.Which a0.To (Point.mk (imin (imax r2.1 (-1000001)) 1000001) (imin (imax r3.1 (-1000001)) 1000001)) a0.F a0.Value a0.Client a0.Session a0.Rect), r3.2.2)
theorem F86s5_ok (n : Nat) (a0 : Command) (a1 : ByteArray) (a2 : Int) : ∀ r, F86s5 n a0 a1 a2 = some r → D 86 [.one (.csl 1000000 1 0 3), .one (.ptr 1000002 0)] [.cells [.ptr 1000001 1, .ptr 1000001 4, .ptr 1000001 5], .cells (Command.cells a0), .cells [.fn 84 [.ptr 1000003 0, .ptr 1000004 0]], .cells [ls a1], .cells [li .i64 a2]] = some ((F86s5_e a0 a1 a2) r) := by
 refine fn_to (D := D) (n := n + 8) (nt := 28) (rs := pc86_r) (c := p86c32) (L := [(0, .one (.csl 1000000 1 0 3)), (1, qp 1000002 0)]) (M := [(1000000, some (.cells W69)), (1000001, some (.cells (Command.cells a0))), (1000002, some (.cells [.fn 84 W3])), (1000003, some (.cells [ls a1])), (1000004, some (.cells [lj a2]))]) (k := 5) rfl rfl rfl rfl rfl rfl rfl ?_
 unfold F86s5
 refine Sim.su 1 [] (.seq (.su 3 [] (.block (.loop (.succ (.seq (.rg W130 [(1000000, some (.cells W69)), (1000001, some (.cells (Command.cells a0))), (1000002, some (.cells [.fn 84 W3])), (1000003, some (.cells [ls a1])), (1000004, some (.cells [lj a2]))] (.ru 1 [] (.thenN (.seq (.ct (.skip (.thenN (.seq (.block (.su 3 [] (.sv 1 [] (.bn ⟨some 16, .gcallv false false W4 [] 15 [], none, []⟩ (fun r1 => (W33 r1)) (fun r1 => [(1000003, some (.cells [ls a1])), (1000004, some (.cells [lj r1.2.2]))]) (fun r1 hr => pe (gv (ks := [1000003, 1000004]) (ARGS := W25) (caps := W3) (F84s0_ok _ _ _ _ hr))) (fun r1 => ?_)))))))))))))))))))
 refine SimI.ru 5 [] (.thenN (.seq (.su 2 [] (.cd _ ?_ ?_))))
 ·exact Sim.su 2 [] (.ret (.thenR (.blockR (.thenR (.loopR (.blockR (.thenR .fn)))))))
 ·refine Sim.skip (.thenN (.region0 (.ru 6 [(1000001, some (.cells [lj a0.Kind, lj (imin (imax r1.1 (-1000001)) 1000001), lj a0.Which, lj a0.To, lj a0.At.X, lj a0.At.Y, lj a0.F.a0.N, ls a0.F.a0.Text, lj a0.F.a1.N, ls a0.F.a1.Text, lj a0.F.a2.N, ls a0.F.a2.Text, lj a0.F.a3.N, ls a0.F.a3.Text, lj a0.Value.N, ls a0.Value.Text, lj a0.Client, lj a0.Session, lj a0.Rect.X0, lj a0.Rect.Y0, lj a0.Rect.X1, lj a0.Rect.Y1]))] (.blockN (.thenN (.region0 (.ru 2 [] (.loopN (.succ (.seq (.rg W131 [(1000000, some (.cells W69)), (1000001, some (.cells [lj a0.Kind, lj (imin (imax r1.1 (-1000001)) 1000001), lj a0.Which, lj a0.To, lj a0.At.X, lj a0.At.Y, lj a0.F.a0.N, ls a0.F.a0.Text, lj a0.F.a1.N, ls a0.F.a1.Text, lj a0.F.a2.N, ls a0.F.a2.Text, lj a0.F.a3.N, ls a0.F.a3.Text, lj a0.Value.N, ls a0.Value.Text, lj a0.Client, lj a0.Session, lj a0.Rect.X0, lj a0.Rect.Y0, lj a0.Rect.X1, lj a0.Rect.Y1])), (1000002, some (.cells [.fn 84 W3])), (1000003, some (.cells [ls a1])), (1000004, some (.cells [lj r1.2.2]))] (.ru 1 [] (.thenN (.seq (.ct (.skip (.thenN (.seq (.block (.su 3 [] (.sv 1 [] (.bn ⟨some 16, .gcallv false false W4 [] 15 [], none, []⟩ (fun r2 => (W33 r2)) (fun r2 => [(1000003, some (.cells [ls a1])), (1000004, some (.cells [lj r2.2.2]))]) (fun r2 hr => pe (gv (ks := [1000003, 1000004]) (ARGS := W25) (caps := W3) (F84s0_ok _ _ _ _ hr))) (fun r2 => ?_)))))))))))))))))))))))
  refine SimI.ru 5 [] (.thenN (.seq (.su 2 [] (.cd _ ?_ ?_))))
  ·exact Sim.su 2 [] (.ret (.thenR (.blockR (.thenR (.loopR (.blockR (.thenR .fn)))))))
  ·refine Sim.skip (.thenN (.region0 (.ru 6 [(1000001, some (.cells [lj a0.Kind, lj (imin (imax r1.1 (-1000001)) 1000001), lj a0.Which, lj a0.To, lj (imin (imax r2.1 (-1000001)) 1000001), lj a0.At.Y, lj a0.F.a0.N, ls a0.F.a0.Text, lj a0.F.a1.N, ls a0.F.a1.Text, lj a0.F.a2.N, ls a0.F.a2.Text, lj a0.F.a3.N, ls a0.F.a3.Text, lj a0.Value.N, ls a0.Value.Text, lj a0.Client, lj a0.Session, lj a0.Rect.X0, lj a0.Rect.Y0, lj a0.Rect.X1, lj a0.Rect.Y1]))] (.blockN (.thenN (.region0 (.ru 2 [] (.loopN (.succ (.seq (.rg W132 [(1000000, some (.cells W69)), (1000001, some (.cells [lj a0.Kind, lj (imin (imax r1.1 (-1000001)) 1000001), lj a0.Which, lj a0.To, lj (imin (imax r2.1 (-1000001)) 1000001), lj a0.At.Y, lj a0.F.a0.N, ls a0.F.a0.Text, lj a0.F.a1.N, ls a0.F.a1.Text, lj a0.F.a2.N, ls a0.F.a2.Text, lj a0.F.a3.N, ls a0.F.a3.Text, lj a0.Value.N, ls a0.Value.Text, lj a0.Client, lj a0.Session, lj a0.Rect.X0, lj a0.Rect.Y0, lj a0.Rect.X1, lj a0.Rect.Y1])), (1000002, some (.cells [.fn 84 W3])), (1000003, some (.cells [ls a1])), (1000004, some (.cells [lj r2.2.2]))] (.ru 1 [] (.thenN (.seq (.ct (.skip (.thenN (.seq (.block (.su 3 [] (.sv 1 [] (.bn ⟨some 16, .gcallv false false W4 [] 15 [], none, []⟩ (fun r3 => (W33 r3)) (fun r3 => [(1000003, some (.cells [ls a1])), (1000004, some (.cells [lj r3.2.2]))]) (fun r3 hr => pe (gv (ks := [1000003, 1000004]) (ARGS := W25) (caps := W3) (F84s0_ok _ _ _ _ hr))) (fun r3 => ?_)))))))))))))))))))))))
   refine SimI.ru 5 [] (.thenN (.seq (.su 2 [] (.cd _ ?_ ?_))))
   ·exact Sim.su 2 [] (.ret (.thenR (.blockR (.thenR (.loopR (.blockR (.thenR .fn)))))))
   ·exact Sim.skip (.thenN (.region0 (.ru 6 [(1000001, some (.cells [lj a0.Kind, lj (imin (imax r1.1 (-1000001)) 1000001), lj a0.Which, lj a0.To, lj (imin (imax r2.1 (-1000001)) 1000001), lj (imin (imax r3.1 (-1000001)) 1000001), lj a0.F.a0.N, ls a0.F.a0.Text, lj a0.F.a1.N, ls a0.F.a1.Text, lj a0.F.a2.N, ls a0.F.a2.Text, lj a0.F.a3.N, ls a0.F.a3.Text, lj a0.Value.N, ls a0.Value.Text, lj a0.Client, lj a0.Session, lj a0.Rect.X0, lj a0.Rect.Y0, lj a0.Rect.X1, lj a0.Rect.Y1]))] (.blockN (.thenN (.region0 (.ru 2 [] (.loopN (.succ (.seq (.rg W133 [(1000000, some (.cells W69)), (1000001, some (.cells [lj a0.Kind, lj (imin (imax r1.1 (-1000001)) 1000001), lj a0.Which, lj a0.To, lj (imin (imax r2.1 (-1000001)) 1000001), lj (imin (imax r3.1 (-1000001)) 1000001), lj a0.F.a0.N, ls a0.F.a0.Text, lj a0.F.a1.N, ls a0.F.a1.Text, lj a0.F.a2.N, ls a0.F.a2.Text, lj a0.F.a3.N, ls a0.F.a3.Text, lj a0.Value.N, ls a0.Value.Text, lj a0.Client, lj a0.Session, lj a0.Rect.X0, lj a0.Rect.Y0, lj a0.Rect.X1, lj a0.Rect.Y1])), (1000002, some (.cells [.fn 84 W3])), (1000003, some (.cells [ls a1])), (1000004, some (.cells [lj r3.2.2]))] (.ru 1 [] (.thenN (.seq (.cf (.exit (.thenX (.loopX (.blockX (.thenN (.su 1 [] (.ret .fn))))))))))))))))))))))
def F86s6_e (a0 : Command) (a1 : ByteArray) (a2 : Int) : (Int × Command × Int) → PV × List Ob := fun r => (.one (li .i64 r.1), [.cells [.ptr 1000001 4, .ptr 1000001 5], .cells (Command.cells r.2.1), .cells [.fn 84 [.ptr 1000003 0, .ptr 1000004 0]], .cells [ls a1], .cells [li .i64 r.2.2]])
def F86s6 (n : Nat) (a0 : Command) (a1 : ByteArray) (a2 : Int) : Option (Int × Command × Int) :=
 (F84s0 n a1 a2).bind fun (r1 : (Int × Int × Int)) =>
 if r1.2.1 != 0 then
  some (r1.2.1, a0, r1.2.2)
 else
  (F84s0 n a1 r1.2.2).bind fun (r2 : (Int × Int × Int)) =>
  if r2.2.1 != 0 then
   some (r2.2.1, (Command.mk a0.Kind a0.ID a0.Which a0.To (Point.mk (imin (imax r1.1 (-1000001)) 1000001) a0.At.Y) a0.F a0.Value a0.Client a0.Session a0.Rect), r2.2.2)
  else
   some (0, (Command.mk a0.Kind a0.ID a0.Which a0.To (Point.mk (imin (imax r1.1 (-1000001)) 1000001) (imin (imax r2.1 (-1000001)) 1000001)) a0.F a0.Value a0.Client a0.Session a0.Rect), r2.2.2)
theorem F86s6_ok (n : Nat) (a0 : Command) (a1 : ByteArray) (a2 : Int) : ∀ r, F86s6 n a0 a1 a2 = some r → D 86 [.one (.csl 1000000 1 0 2), .one (.ptr 1000002 0)] [.cells [.ptr 1000001 4, .ptr 1000001 5], .cells (Command.cells a0), .cells [.fn 84 [.ptr 1000003 0, .ptr 1000004 0]], .cells [ls a1], .cells [li .i64 a2]] = some ((F86s6_e a0 a1 a2) r) := by
 refine fn_to (D := D) (n := n + 8) (nt := 28) (rs := pc86_r) (c := p86c32) (L := W107) (M := [(1000000, some (.cells W110)), (1000001, some (.cells (Command.cells a0))), (1000002, some (.cells [.fn 84 W3])), (1000003, some (.cells [ls a1])), (1000004, some (.cells [lj a2]))]) (k := 5) rfl rfl rfl rfl rfl rfl rfl ?_
 unfold F86s6
 refine Sim.su 1 [] (.seq (.su 3 [] (.block (.loop (.succ (.seq (.rg W82 [(1000000, some (.cells W110)), (1000001, some (.cells (Command.cells a0))), (1000002, some (.cells [.fn 84 W3])), (1000003, some (.cells [ls a1])), (1000004, some (.cells [lj a2]))] (.ru 1 [] (.thenN (.seq (.ct (.skip (.thenN (.seq (.block (.su 3 [] (.sv 1 [] (.bn ⟨some 16, .gcallv false false W4 [] 15 [], none, []⟩ (fun r1 => (W33 r1)) (fun r1 => [(1000003, some (.cells [ls a1])), (1000004, some (.cells [lj r1.2.2]))]) (fun r1 hr => pe (gv (ks := [1000003, 1000004]) (ARGS := W25) (caps := W3) (F84s0_ok _ _ _ _ hr))) (fun r1 => ?_)))))))))))))))))))
 refine SimI.ru 5 [] (.thenN (.seq (.su 2 [] (.cd _ ?_ ?_))))
 ·exact Sim.su 2 [] (.ret (.thenR (.blockR (.thenR (.loopR (.blockR (.thenR .fn)))))))
 ·refine Sim.skip (.thenN (.region0 (.ru 6 [(1000001, some (.cells [lj a0.Kind, lj a0.ID, lj a0.Which, lj a0.To, lj (imin (imax r1.1 (-1000001)) 1000001), lj a0.At.Y, lj a0.F.a0.N, ls a0.F.a0.Text, lj a0.F.a1.N, ls a0.F.a1.Text, lj a0.F.a2.N, ls a0.F.a2.Text, lj a0.F.a3.N, ls a0.F.a3.Text, lj a0.Value.N, ls a0.Value.Text, lj a0.Client, lj a0.Session, lj a0.Rect.X0, lj a0.Rect.Y0, lj a0.Rect.X1, lj a0.Rect.Y1]))] (.blockN (.thenN (.region0 (.ru 2 [] (.loopN (.succ (.seq (.rg W83 [(1000000, some (.cells W110)), (1000001, some (.cells [lj a0.Kind, lj a0.ID, lj a0.Which, lj a0.To, lj (imin (imax r1.1 (-1000001)) 1000001), lj a0.At.Y, lj a0.F.a0.N, ls a0.F.a0.Text, lj a0.F.a1.N, ls a0.F.a1.Text, lj a0.F.a2.N, ls a0.F.a2.Text, lj a0.F.a3.N, ls a0.F.a3.Text, lj a0.Value.N, ls a0.Value.Text, lj a0.Client, lj a0.Session, lj a0.Rect.X0, lj a0.Rect.Y0, lj a0.Rect.X1, lj a0.Rect.Y1])), (1000002, some (.cells [.fn 84 W3])), (1000003, some (.cells [ls a1])), (1000004, some (.cells [lj r1.2.2]))] (.ru 1 [] (.thenN (.seq (.ct (.skip (.thenN (.seq (.block (.su 3 [] (.sv 1 [] (.bn ⟨some 16, .gcallv false false W4 [] 15 [], none, []⟩ (fun r2 => (W33 r2)) (fun r2 => [(1000003, some (.cells [ls a1])), (1000004, some (.cells [lj r2.2.2]))]) (fun r2 hr => pe (gv (ks := [1000003, 1000004]) (ARGS := W25) (caps := W3) (F84s0_ok _ _ _ _ hr))) (fun r2 => ?_)))))))))))))))))))))))
  refine SimI.ru 5 [] (.thenN (.seq (.su 2 [] (.cd _ ?_ ?_))))
  ·exact Sim.su 2 [] (.ret (.thenR (.blockR (.thenR (.loopR (.blockR (.thenR .fn)))))))
  ·exact Sim.skip (.thenN (.region0 (.ru 6 [(1000001, some (.cells [lj a0.Kind, lj a0.ID, lj a0.Which, lj a0.To, lj (imin (imax r1.1 (-1000001)) 1000001), lj (imin (imax r2.1 (-1000001)) 1000001), lj a0.F.a0.N, ls a0.F.a0.Text, lj a0.F.a1.N, ls a0.F.a1.Text, lj a0.F.a2.N, ls a0.F.a2.Text, lj a0.F.a3.N, ls a0.F.a3.Text, lj a0.Value.N, ls a0.Value.Text, lj a0.Client, lj a0.Session, lj a0.Rect.X0, lj a0.Rect.Y0, lj a0.Rect.X1, lj a0.Rect.Y1]))] (.blockN (.thenN (.region0 (.ru 2 [] (.loopN (.succ (.seq (.rg W84 [(1000000, some (.cells W110)), (1000001, some (.cells [lj a0.Kind, lj a0.ID, lj a0.Which, lj a0.To, lj (imin (imax r1.1 (-1000001)) 1000001), lj (imin (imax r2.1 (-1000001)) 1000001), lj a0.F.a0.N, ls a0.F.a0.Text, lj a0.F.a1.N, ls a0.F.a1.Text, lj a0.F.a2.N, ls a0.F.a2.Text, lj a0.F.a3.N, ls a0.F.a3.Text, lj a0.Value.N, ls a0.Value.Text, lj a0.Client, lj a0.Session, lj a0.Rect.X0, lj a0.Rect.Y0, lj a0.Rect.X1, lj a0.Rect.Y1])), (1000002, some (.cells [.fn 84 W3])), (1000003, some (.cells [ls a1])), (1000004, some (.cells [lj r2.2.2]))] (.ru 1 [] (.thenN (.seq (.cf (.exit (.thenX (.loopX (.blockX (.thenN (.su 1 [] (.ret .fn))))))))))))))))))))))
def F86s7_e (a0 : ByteArray) (a1 : Int) : Unit → PV × List Ob := fun r => (.one (li .i64 0), [.cells [.fn 84 [.ptr 1000001 0, .ptr 1000002 0]], .cells [ls a0], .cells [li .i64 a1]])
def F86s7_l1 (n : Nat) : Nat → Option Unit
 | 0 => none
 | m + 1 =>
  some ()
theorem F86s7_l1_ok (n : Nat) (a0 : ByteArray) (a1 : Int) : ∀ (m : Nat), SimL Tryz.prog D (n + 8) m p86c24 [(1, qp 1000000 0), (8, .one (.view 1 0 fun _ => [])), (9, qj 0), (10, qj 0)] [(1000000, some (.cells W93)), (1000001, some (.cells [ls a0])), (1000002, some (.cells [lj a1]))] (F86s7_l1 n m) (QB 0 (QT Tryz.prog D (n + 8) p86c30 (QF false pc86_r 3 (F86s7_e a0 a1)))) := by
 intro m_l1
 induction m_l1 with
 | zero => exact SimL.zero' rfl
 | succ m_l1 ih_l1 =>
  refine SimL.succ ?_
  unfold F86s7_l1
  exact Sim.seq (.rg [(1, qp 1000000 0), (8, .one (.view 1 0 fun _ => [])), (9, qj 0), (10, qj 0)] [(1000000, some (.cells W93)), (1000001, some (.cells [ls a0])), (1000002, some (.cells [lj a1]))] (.ru 1 [] (.thenN (.seq (.cf (.exit (.thenX (.loopX (.blockX (.thenN (.su 1 [] (.ret .fn))))))))))))
def F86s7 (n : Nat) (a0 : ByteArray) (a1 : Int) : Option Unit :=
 F86s7_l1 n (n + 8)
theorem F86s7_ok (n : Nat) (a0 : ByteArray) (a1 : Int) : ∀ r, F86s7 n a0 a1 = some r → D 86 [.one (.view 1 0 fun _ => []), .one (.ptr 1000000 0)] [.cells [.fn 84 [.ptr 1000001 0, .ptr 1000002 0]], .cells [ls a0], .cells [li .i64 a1]] = some ((F86s7_e a0 a1) r) := by
 refine fn_to (D := D) (n := n + 8) (nt := 28) (rs := pc86_r) (c := p86c32) (L := [(0, .one (.view 1 0 fun _ => [])), (1, qp 1000000 0)]) (M := [(1000000, some (.cells W93)), (1000001, some (.cells [ls a0])), (1000002, some (.cells [lj a1]))]) (k := 3) rfl rfl rfl rfl rfl rfl rfl ?_
 unfold F86s7
 refine Sim.su 1 [] (.seq (.su 3 [] (.block (.loop (.pr [1, 8, 9, 10] [1000000, 1000001, 1000002, 1000003, 1000004] [] [(1, qp 1000000 0), (8, .one (.view 1 0 fun _ => [])), (9, qj 0), (10, qj 0)] [(1000000, some (.cells W93)), (1000001, some (.cells [ls a0])), (1000002, some (.cells [lj a1]))] ?_)))))
 exact F86s7_l1_ok n a0 a1 (n + 8)
def F59_e : (Command × Int × Int) → PV × List Ob := fun r => (.tup [.agg (Command.cells r.1), .one (li .i64 r.2.1), .one (li .i64 r.2.2)], [])
def F59_j47 (n : Nat) (a0 : ByteArray) (g45 : Command) (i46 : Int) : Option (Command × Int × Int) :=
  (F19 n g45).bind fun (r48 : (ByteArray × Int)) =>
  if r48.2 != 0 then
   some ((Command.mk 0 0 0 0 (Point.mk 0 0) (A4.mk (Field.mk 0 ByteArray.empty) (Field.mk 0 ByteArray.empty) (Field.mk 0 ByteArray.empty) (Field.mk 0 ByteArray.empty)) (Field.mk 0 ByteArray.empty) 0 0 (Rect.mk 0 0 0 0)), 0, 11)
  else
   if 0 ≤ (i46 : Int) ∧ (i46 : Int) ≤ (a0.size : Int) then
    if !(r48.1.toList == (a0.extract 0 i46.toNat).toList) then
     some ((Command.mk 0 0 0 0 (Point.mk 0 0) (A4.mk (Field.mk 0 ByteArray.empty) (Field.mk 0 ByteArray.empty) (Field.mk 0 ByteArray.empty) (Field.mk 0 ByteArray.empty)) (Field.mk 0 ByteArray.empty) 0 0 (Rect.mk 0 0 0 0)), 0, 11)
    else
     some (g45, i46, 0)
   else none
theorem F59_j47_ok (n : Nat) (a0 : ByteArray) (g45 : Command) (i46 : Int) : Sim Tryz.prog D (n + 8) p59c70 W80 (W52 a0 g45 i46) (F59_j47 n a0 g45 i46) (QF false pc59_r 0 F59_e) := by
  unfold F59_j47
  refine Sim.seq (.seq (.rs (.rv 1 [] (.cl 75 true [[]] 19 [74] none (fun r48 => .tup [qs r48.1, qj r48.2]) [.agg (Command.cells g45)] (F19_ok _ _) (fun r48 => ?_)))))
  refine SimI.ru 5 [] (.thenN (.sv 3 [] (.sp 80 _ ?_ ?_)))
  ·exact SimI.ru 6 [] (.thenN (.ct (.su 4 [(2, some (.cells W0))] (.ret (.thenR .fn)))))
  ·refine SimI.rv 3 [] (.gp 84 (.slice 9 false true) [82, 83] (some (80, false)) [] (fun hc => pr_cutH (s := a0) (l := .i64) (b := i46) Tryz.underlying9 hc) (.ru 2 [] (.thenN (.cd _ ?_ ?_))))
   ·exact Sim.su 4 [(2, some (.cells W0))] (.ret (.thenR .fn))
   ·exact Sim.skip (.thenN (.su 5 [(2, some (.cells (Command.cells g45)))] (.ret .fn)))
def F59_j20 (n : Nat) (a0 : ByteArray) (g17 : Command) (i18 i19 : Int) : Option (Command × Int × Int) :=
  if i18 != 0 then
   some ((Command.mk 0 0 0 0 (Point.mk 0 0) (A4.mk (Field.mk 0 ByteArray.empty) (Field.mk 0 ByteArray.empty) (Field.mk 0 ByteArray.empty) (Field.mk 0 ByteArray.empty)) (Field.mk 0 ByteArray.empty) 0 0 (Rect.mk 0 0 0 0)), 0, i18)
  else
   F59_j47 n a0 g17 i19
theorem F59_j20_ok (n : Nat) (a0 : ByteArray) (g17 : Command) (i18 i19 : Int) : Sim Tryz.prog D (n + 8) p59c45 [(1, qp 1 0), (2, qp 2 0), (5, qp 5 0), (6, qp 6 0), (7, qp 7 0), (15, qj i18), (37, .one (.csl 300000 1 0 1)), (38, qj 1), (39, qj 0)] (W47 a0 g17 i19) (F59_j20 n a0 g17 i18 i19) (QB 1 (QT Tryz.prog D (n + 8) p59c51 (QL Tryz.prog D (n + 8) (n + 7) p59c54 (QB 0 (QT Tryz.prog D (n + 8) p59c70 (QF false pc59_r 0 F59_e)))))) := by
  unfold F59_j20
  refine Sim.seq (.rs (.ru 2 [] (.thenN (.cd _ ?_ ?_))))
  ·exact Sim.su 5 [(2, some (.cells W0))] (.ret (.blockR (.thenR (.loopR (.blockR (.thenR .fn))))))
  ·refine Sim.skip (.blockN (.thenN (.region0 (.ru 2 [] (.loopN (.succ (.seq (.rg [(1, qp 1 0), (2, qp 2 0), (5, qp 5 0), (6, qp 6 0), (7, qp 7 0), (37, .one (.csl 300000 1 0 1)), (38, qj 1), (39, qj 1)] (W47 a0 g17 i19) (.ru 1 [] (.thenN (.seq (.cf (.exit (.thenX (.loopX (.blockX (.thenN (.pr [1, 2, 5, 6] [1, 2, 5, 6, 7, 300000] [] W80 (W52 a0 g17 i19) ?_))))))))))))))))))
   exact F59_j47_ok n a0 g17 i19
def F59_j44 (n : Nat) (a0 : ByteArray) (g41 : Command) (i42 i43 : Int) : Option (Command × Int × Int) :=
  if i42 != 0 then
   some ((Command.mk 0 0 0 0 (Point.mk 0 0) (A4.mk (Field.mk 0 ByteArray.empty) (Field.mk 0 ByteArray.empty) (Field.mk 0 ByteArray.empty) (Field.mk 0 ByteArray.empty)) (Field.mk 0 ByteArray.empty) 0 0 (Rect.mk 0 0 0 0)), 0, i42)
  else
   F59_j47 n a0 g41 i43
theorem F59_j44_ok (n : Nat) (a0 : ByteArray) (g41 : Command) (i42 i43 : Int) : Sim Tryz.prog D (n + 8) p59c45 [(1, qp 1 0), (2, qp 2 0), (5, qp 5 0), (6, qp 6 0), (7, qp 7 0), (15, qj i42), (37, .one (.csl 300000 1 0 4)), (38, qj 4), (39, qj 3)] (W27 a0 g41 i43) (F59_j44 n a0 g41 i42 i43) (QB 1 (QT Tryz.prog D (n + 8) p59c51 (QL Tryz.prog D (n + 8) (n + 4) p59c54 (QB 0 (QT Tryz.prog D (n + 8) p59c70 (QF false pc59_r 0 F59_e)))))) := by
  unfold F59_j44
  refine Sim.seq (.rs (.ru 2 [] (.thenN (.cd _ ?_ ?_))))
  ·exact Sim.su 5 [(2, some (.cells W0))] (.ret (.blockR (.thenR (.loopR (.blockR (.thenR .fn))))))
  ·refine Sim.skip (.blockN (.thenN (.region0 (.ru 2 [] (.loopN (.succ (.seq (.rg [(1, qp 1 0), (2, qp 2 0), (5, qp 5 0), (6, qp 6 0), (7, qp 7 0), (37, .one (.csl 300000 1 0 4)), (38, qj 4), (39, qj 4)] (W27 a0 g41 i43) (.ru 1 [] (.thenN (.seq (.cf (.exit (.thenX (.loopX (.blockX (.thenN (.pr [1, 2, 5, 6] [1, 2, 5, 6, 7, 300000] [] W80 (W52 a0 g41 i43) ?_))))))))))))))))))
   exact F59_j47_ok n a0 g41 i43
def F59_j38 (n : Nat) (a0 : ByteArray) (g35 : Command) (i36 i37 : Int) : Option (Command × Int × Int) :=
  if i36 != 0 then
   some ((Command.mk 0 0 0 0 (Point.mk 0 0) (A4.mk (Field.mk 0 ByteArray.empty) (Field.mk 0 ByteArray.empty) (Field.mk 0 ByteArray.empty) (Field.mk 0 ByteArray.empty)) (Field.mk 0 ByteArray.empty) 0 0 (Rect.mk 0 0 0 0)), 0, i36)
  else
   if 0 ≤ (i37 : Int) ∧ (i37 : Int) ≤ (a0.size : Int) then
    (F56 n (a0.extract i37.toNat a0.size) 12).bind fun (r39 : (ByteArray × Int × Int)) =>
    if r39.2.2 == 0 then
     (F84s0 n a0 (IntKind.wrap .i64 (i37 + r39.2.1))).bind fun (r40 : (Int × Int × Int)) =>
     F59_j44 n a0 (Command.mk g35.Kind g35.ID g35.Which g35.To g35.At (A4.mk g35.F.a0 g35.F.a1 g35.F.a2 (Field.mk r40.1 r39.1)) g35.Value g35.Client g35.Session g35.Rect) r40.2.1 r40.2.2
    else
     F59_j44 n a0 g35 r39.2.2 (IntKind.wrap .i64 (i37 + r39.2.1))
   else none
theorem F59_j38_ok (n : Nat) (a0 : ByteArray) (g35 : Command) (i36 i37 : Int) : Sim Tryz.prog D (n + 8) p59c45 [(1, qp 1 0), (2, qp 2 0), (5, qp 5 0), (6, qp 6 0), (7, qp 7 0), (15, qj i36), (37, .one (.csl 300000 1 0 4)), (38, qj 4), (39, qj 2)] (W27 a0 g35 i37) (F59_j38 n a0 g35 i36 i37) (QB 1 (QT Tryz.prog D (n + 8) p59c51 (QL Tryz.prog D (n + 8) (n + 5) p59c54 (QB 0 (QT Tryz.prog D (n + 8) p59c70 (QF false pc59_r 0 F59_e)))))) := by
  unfold F59_j38
  refine Sim.seq (.rs (.ru 2 [] (.thenN (.cd _ ?_ ?_))))
  ·exact Sim.su 5 [(2, some (.cells W0))] (.ret (.blockR (.thenR (.loopR (.blockR (.thenR .fn))))))
  ·refine Sim.skip (.blockN (.thenN (.region0 (.ru 2 [] (.loopN (.succ (.seq (.rg [(1, qp 1 0), (2, qp 2 0), (5, qp 5 0), (6, qp 6 0), (7, qp 7 0), (37, .one (.csl 300000 1 0 4)), (38, qj 4), (39, qj 3)] (W27 a0 g35 i37) (.ru 1 [] (.thenN (.seq (.ct (.skip (.thenN (.seq (.block (.su 3 [] (.sv 2 [] (.gp 46 (.slice 9 true false) [44, 45] none [] (fun hc => pr_cutL (s := a0) (k := .i64) (a := i37) Tryz.underlying9 hc) (.cl 47 true [[], []] 56 [46, kk 12] none (fun r39 => .tup (W76 r39)) (W114 a0 i37) (F56_ok _ _ _) (fun r39 => ?_)))))))))))))))))))))
   refine SimI.ru 7 [] (.thenN (.su 4 (W115 i37 r39) (.seq (.su 2 [] (.cd _ ?_ ?_)))))
   ·refine Sim.su 5 [(5, some (.cells [lj g35.Kind, lj g35.ID, lj g35.Which, lj g35.To, lj g35.At.X, lj g35.At.Y, lj g35.F.a0.N, ls g35.F.a0.Text, lj g35.F.a1.N, ls g35.F.a1.Text, lj g35.F.a2.N, ls g35.F.a2.Text, lj g35.F.a3.N, ls r39.1, lj g35.Value.N, ls g35.Value.Text, lj g35.Client, lj g35.Session, lj g35.Rect.X0, lj g35.Rect.Y0, lj g35.Rect.X1, lj g35.Rect.Y1]))] (.region0 (.rv 2 [] (.bn ⟨some 63, .gcallv false false W46 [] 62 [], none, []⟩ (fun r40 => [(63, .tup [qj r40.1, qj r40.2.1])]) (fun r40 => (W89 a0 r40)) (fun r40 hr => pe (gv (ks := [1, 6]) (ARGS := [qp 1 0, qp 6 0]) (caps := [.ptr 1 0, .ptr 6 0]) (F84s0_ok _ _ _ _ hr))) (fun r40 => ?_))))
    refine SimI.ru 7 [(5, some (.cells (W58 g35 r40 r39)))] (.thenN (.pr W53 [1, 2, 5, 6, 7, 300000] [] [(1, qp 1 0), (2, qp 2 0), (5, qp 5 0), (6, qp 6 0), (7, qp 7 0), (15, qj r40.2.1), (37, .one (.csl 300000 1 0 4)), (38, qj 4), (39, qj 3)] [(1, some (.cells [ls a0])), (2, some (.cells W0)), (5, some (.cells (W58 g35 r40 r39))), (6, some (.cells [lj r40.2.2])), (7, some (.cells W8)), (300000, some (.cells W13))] ?_))
    exact F59_j44_ok n a0 (Command.mk g35.Kind g35.ID g35.Which g35.To g35.At (A4.mk g35.F.a0 g35.F.a1 g35.F.a2 (Field.mk r40.1 r39.1)) g35.Value g35.Client g35.Session g35.Rect) r40.2.1 r40.2.2
   ·refine Sim.skip (.thenN (.pr W53 [1, 2, 5, 6, 7, 300000] [] [(1, qp 1 0), (2, qp 2 0), (5, qp 5 0), (6, qp 6 0), (7, qp 7 0), (15, qj r39.2.2), (37, .one (.csl 300000 1 0 4)), (38, qj 4), (39, qj 3)] (W30 a0 g35 i37 r39) ?_))
    exact F59_j44_ok n a0 g35 r39.2.2 (iw .i64 (i37 + r39.2.1))
def F59_j32 (n : Nat) (a0 : ByteArray) (g29 : Command) (i30 i31 : Int) : Option (Command × Int × Int) :=
  if i30 != 0 then
   some ((Command.mk 0 0 0 0 (Point.mk 0 0) (A4.mk (Field.mk 0 ByteArray.empty) (Field.mk 0 ByteArray.empty) (Field.mk 0 ByteArray.empty) (Field.mk 0 ByteArray.empty)) (Field.mk 0 ByteArray.empty) 0 0 (Rect.mk 0 0 0 0)), 0, i30)
  else
   if 0 ≤ (i31 : Int) ∧ (i31 : Int) ≤ (a0.size : Int) then
    (F56 n (a0.extract i31.toNat a0.size) 12).bind fun (r33 : (ByteArray × Int × Int)) =>
    if r33.2.2 == 0 then
     (F84s0 n a0 (IntKind.wrap .i64 (i31 + r33.2.1))).bind fun (r34 : (Int × Int × Int)) =>
     F59_j38 n a0 (Command.mk g29.Kind g29.ID g29.Which g29.To g29.At (A4.mk g29.F.a0 g29.F.a1 (Field.mk r34.1 r33.1) g29.F.a3) g29.Value g29.Client g29.Session g29.Rect) r34.2.1 r34.2.2
    else
     F59_j38 n a0 g29 r33.2.2 (IntKind.wrap .i64 (i31 + r33.2.1))
   else none
theorem F59_j32_ok (n : Nat) (a0 : ByteArray) (g29 : Command) (i30 i31 : Int) : Sim Tryz.prog D (n + 8) p59c45 [(1, qp 1 0), (2, qp 2 0), (5, qp 5 0), (6, qp 6 0), (7, qp 7 0), (15, qj i30), (37, .one (.csl 300000 1 0 4)), (38, qj 4), (39, qj 1)] (W27 a0 g29 i31) (F59_j32 n a0 g29 i30 i31) (QB 1 (QT Tryz.prog D (n + 8) p59c51 (QL Tryz.prog D (n + 8) (n + 6) p59c54 (QB 0 (QT Tryz.prog D (n + 8) p59c70 (QF false pc59_r 0 F59_e)))))) := by
  unfold F59_j32
  refine Sim.seq (.rs (.ru 2 [] (.thenN (.cd _ ?_ ?_))))
  ·exact Sim.su 5 [(2, some (.cells W0))] (.ret (.blockR (.thenR (.loopR (.blockR (.thenR .fn))))))
  ·refine Sim.skip (.blockN (.thenN (.region0 (.ru 2 [] (.loopN (.succ (.seq (.rg [(1, qp 1 0), (2, qp 2 0), (5, qp 5 0), (6, qp 6 0), (7, qp 7 0), (37, .one (.csl 300000 1 0 4)), (38, qj 4), (39, qj 2)] (W27 a0 g29 i31) (.ru 1 [] (.thenN (.seq (.ct (.skip (.thenN (.seq (.block (.su 3 [] (.sv 2 [] (.gp 46 (.slice 9 true false) [44, 45] none [] (fun hc => pr_cutL (s := a0) (k := .i64) (a := i31) Tryz.underlying9 hc) (.cl 47 true [[], []] 56 [46, kk 12] none (fun r33 => .tup (W76 r33)) (W114 a0 i31) (F56_ok _ _ _) (fun r33 => ?_)))))))))))))))))))))
   refine SimI.ru 7 [] (.thenN (.su 4 (W115 i31 r33) (.seq (.su 2 [] (.cd _ ?_ ?_)))))
   ·refine Sim.su 5 [(5, some (.cells [lj g29.Kind, lj g29.ID, lj g29.Which, lj g29.To, lj g29.At.X, lj g29.At.Y, lj g29.F.a0.N, ls g29.F.a0.Text, lj g29.F.a1.N, ls g29.F.a1.Text, lj g29.F.a2.N, ls r33.1, lj g29.F.a3.N, ls g29.F.a3.Text, lj g29.Value.N, ls g29.Value.Text, lj g29.Client, lj g29.Session, lj g29.Rect.X0, lj g29.Rect.Y0, lj g29.Rect.X1, lj g29.Rect.Y1]))] (.region0 (.rv 2 [] (.bn ⟨some 63, .gcallv false false W46 [] 62 [], none, []⟩ (fun r34 => [(63, .tup [qj r34.1, qj r34.2.1])]) (fun r34 => (W89 a0 r34)) (fun r34 hr => pe (gv (ks := [1, 6]) (ARGS := [qp 1 0, qp 6 0]) (caps := [.ptr 1 0, .ptr 6 0]) (F84s0_ok _ _ _ _ hr))) (fun r34 => ?_))))
    refine SimI.ru 7 [(5, some (.cells (W59 g29 r34 r33)))] (.thenN (.pr W53 [1, 2, 5, 6, 7, 300000] [] [(1, qp 1 0), (2, qp 2 0), (5, qp 5 0), (6, qp 6 0), (7, qp 7 0), (15, qj r34.2.1), (37, .one (.csl 300000 1 0 4)), (38, qj 4), (39, qj 2)] [(1, some (.cells [ls a0])), (2, some (.cells W0)), (5, some (.cells (W59 g29 r34 r33))), (6, some (.cells [lj r34.2.2])), (7, some (.cells W8)), (300000, some (.cells W13))] ?_))
    exact F59_j38_ok n a0 (Command.mk g29.Kind g29.ID g29.Which g29.To g29.At (A4.mk g29.F.a0 g29.F.a1 (Field.mk r34.1 r33.1) g29.F.a3) g29.Value g29.Client g29.Session g29.Rect) r34.2.1 r34.2.2
   ·refine Sim.skip (.thenN (.pr W53 [1, 2, 5, 6, 7, 300000] [] [(1, qp 1 0), (2, qp 2 0), (5, qp 5 0), (6, qp 6 0), (7, qp 7 0), (15, qj r33.2.2), (37, .one (.csl 300000 1 0 4)), (38, qj 4), (39, qj 2)] (W30 a0 g29 i31 r33) ?_))
    exact F59_j38_ok n a0 g29 r33.2.2 (iw .i64 (i31 + r33.2.1))
def F59_j26 (n : Nat) (a0 : ByteArray) (g23 : Command) (i24 i25 : Int) : Option (Command × Int × Int) :=
  if i24 != 0 then
   some ((Command.mk 0 0 0 0 (Point.mk 0 0) (A4.mk (Field.mk 0 ByteArray.empty) (Field.mk 0 ByteArray.empty) (Field.mk 0 ByteArray.empty) (Field.mk 0 ByteArray.empty)) (Field.mk 0 ByteArray.empty) 0 0 (Rect.mk 0 0 0 0)), 0, i24)
  else
   if 0 ≤ (i25 : Int) ∧ (i25 : Int) ≤ (a0.size : Int) then
    (F56 n (a0.extract i25.toNat a0.size) 12).bind fun (r27 : (ByteArray × Int × Int)) =>
    if r27.2.2 == 0 then
     (F84s0 n a0 (IntKind.wrap .i64 (i25 + r27.2.1))).bind fun (r28 : (Int × Int × Int)) =>
     F59_j32 n a0 (Command.mk g23.Kind g23.ID g23.Which g23.To g23.At (A4.mk g23.F.a0 (Field.mk r28.1 r27.1) g23.F.a2 g23.F.a3) g23.Value g23.Client g23.Session g23.Rect) r28.2.1 r28.2.2
    else
     F59_j32 n a0 g23 r27.2.2 (IntKind.wrap .i64 (i25 + r27.2.1))
   else none
theorem F59_j26_ok (n : Nat) (a0 : ByteArray) (g23 : Command) (i24 i25 : Int) : Sim Tryz.prog D (n + 8) p59c45 [(1, qp 1 0), (2, qp 2 0), (5, qp 5 0), (6, qp 6 0), (7, qp 7 0), (15, qj i24), (37, .one (.csl 300000 1 0 4)), (38, qj 4), (39, qj 0)] (W27 a0 g23 i25) (F59_j26 n a0 g23 i24 i25) (QB 1 (QT Tryz.prog D (n + 8) p59c51 (QL Tryz.prog D (n + 8) (n + 7) p59c54 (QB 0 (QT Tryz.prog D (n + 8) p59c70 (QF false pc59_r 0 F59_e)))))) := by
  unfold F59_j26
  refine Sim.seq (.rs (.ru 2 [] (.thenN (.cd _ ?_ ?_))))
  ·exact Sim.su 5 [(2, some (.cells W0))] (.ret (.blockR (.thenR (.loopR (.blockR (.thenR .fn))))))
  ·refine Sim.skip (.blockN (.thenN (.region0 (.ru 2 [] (.loopN (.succ (.seq (.rg [(1, qp 1 0), (2, qp 2 0), (5, qp 5 0), (6, qp 6 0), (7, qp 7 0), (37, .one (.csl 300000 1 0 4)), (38, qj 4), (39, qj 1)] (W27 a0 g23 i25) (.ru 1 [] (.thenN (.seq (.ct (.skip (.thenN (.seq (.block (.su 3 [] (.sv 2 [] (.gp 46 (.slice 9 true false) [44, 45] none [] (fun hc => pr_cutL (s := a0) (k := .i64) (a := i25) Tryz.underlying9 hc) (.cl 47 true [[], []] 56 [46, kk 12] none (fun r27 => .tup (W76 r27)) (W114 a0 i25) (F56_ok _ _ _) (fun r27 => ?_)))))))))))))))))))))
   refine SimI.ru 7 [] (.thenN (.su 4 (W115 i25 r27) (.seq (.su 2 [] (.cd _ ?_ ?_)))))
   ·refine Sim.su 5 [(5, some (.cells [lj g23.Kind, lj g23.ID, lj g23.Which, lj g23.To, lj g23.At.X, lj g23.At.Y, lj g23.F.a0.N, ls g23.F.a0.Text, lj g23.F.a1.N, ls r27.1, lj g23.F.a2.N, ls g23.F.a2.Text, lj g23.F.a3.N, ls g23.F.a3.Text, lj g23.Value.N, ls g23.Value.Text, lj g23.Client, lj g23.Session, lj g23.Rect.X0, lj g23.Rect.Y0, lj g23.Rect.X1, lj g23.Rect.Y1]))] (.region0 (.rv 2 [] (.bn ⟨some 63, .gcallv false false W46 [] 62 [], none, []⟩ (fun r28 => [(63, .tup [qj r28.1, qj r28.2.1])]) (fun r28 => (W89 a0 r28)) (fun r28 hr => pe (gv (ks := [1, 6]) (ARGS := [qp 1 0, qp 6 0]) (caps := [.ptr 1 0, .ptr 6 0]) (F84s0_ok _ _ _ _ hr))) (fun r28 => ?_))))
    refine SimI.ru 7 [(5, some (.cells (W60 g23 r28 r27)))] (.thenN (.pr W53 [1, 2, 5, 6, 7, 300000] [] [(1, qp 1 0), (2, qp 2 0), (5, qp 5 0), (6, qp 6 0), (7, qp 7 0), (15, qj r28.2.1), (37, .one (.csl 300000 1 0 4)), (38, qj 4), (39, qj 1)] [(1, some (.cells [ls a0])), (2, some (.cells W0)), (5, some (.cells (W60 g23 r28 r27))), (6, some (.cells [lj r28.2.2])), (7, some (.cells W8)), (300000, some (.cells W13))] ?_))
    exact F59_j32_ok n a0 (Command.mk g23.Kind g23.ID g23.Which g23.To g23.At (A4.mk g23.F.a0 (Field.mk r28.1 r27.1) g23.F.a2 g23.F.a3) g23.Value g23.Client g23.Session g23.Rect) r28.2.1 r28.2.2
   ·refine Sim.skip (.thenN (.pr W53 [1, 2, 5, 6, 7, 300000] [] [(1, qp 1 0), (2, qp 2 0), (5, qp 5 0), (6, qp 6 0), (7, qp 7 0), (15, qj r27.2.2), (37, .one (.csl 300000 1 0 4)), (38, qj 4), (39, qj 1)] (W30 a0 g23 i25 r27) ?_))
    exact F59_j32_ok n a0 g23 r27.2.2 (iw .i64 (i25 + r27.2.1))
def F59_j13 (n : Nat) (a0 : ByteArray) (g10 : Command) (i11 i12 : Int) : Option (Command × Int × Int) :=
  if i11 != 0 then
   some ((Command.mk 0 0 0 0 (Point.mk 0 0) (A4.mk (Field.mk 0 ByteArray.empty) (Field.mk 0 ByteArray.empty) (Field.mk 0 ByteArray.empty) (Field.mk 0 ByteArray.empty)) (Field.mk 0 ByteArray.empty) 0 0 (Rect.mk 0 0 0 0)), 0, i11)
  else
   (F44s0 n g10).bind fun (r14 : Nat) =>
   if r14 = 0 then
    F59_j47 n a0 g10 i12
   else
    if r14 = 1 then
     if 0 ≤ (i12 : Int) ∧ (i12 : Int) ≤ (a0.size : Int) then
      (F56 n (a0.extract i12.toNat a0.size) 12).bind fun (r21 : (ByteArray × Int × Int)) =>
      if r21.2.2 == 0 then
       (F84s0 n a0 (IntKind.wrap .i64 (i12 + r21.2.1))).bind fun (r22 : (Int × Int × Int)) =>
       F59_j26 n a0 (Command.mk g10.Kind g10.ID g10.Which g10.To g10.At (A4.mk (Field.mk r22.1 r21.1) g10.F.a1 g10.F.a2 g10.F.a3) g10.Value g10.Client g10.Session g10.Rect) r22.2.1 r22.2.2
      else
       F59_j26 n a0 g10 r21.2.2 (IntKind.wrap .i64 (i12 + r21.2.1))
     else none
    else
     if r14 = 2 then
      if 0 ≤ (i12 : Int) ∧ (i12 : Int) ≤ (a0.size : Int) then
       (F56 n (a0.extract i12.toNat a0.size) 12).bind fun (r15 : (ByteArray × Int × Int)) =>
       if r15.2.2 == 0 then
        (F84s0 n a0 (IntKind.wrap .i64 (i12 + r15.2.1))).bind fun (r16 : (Int × Int × Int)) =>
        F59_j20 n a0 (Command.mk g10.Kind g10.ID g10.Which g10.To g10.At g10.F (Field.mk r16.1 r15.1) g10.Client g10.Session g10.Rect) r16.2.1 r16.2.2
       else
        F59_j20 n a0 g10 r15.2.2 (IntKind.wrap .i64 (i12 + r15.2.1))
      else none
     else
      none
theorem F59_j13_ok (n : Nat) (a0 : ByteArray) (g10 : Command) (i11 i12 : Int) : Sim Tryz.prog D (n + 8) p59c22 [(1, qp 1 0), (2, qp 2 0), (5, qp 5 0), (6, qp 6 0), (7, qp 7 0), (10, qj i11)] [(1, some (.cells [ls a0])), (2, some (.cells W0)), (5, some (.cells (Command.cells g10))), (6, some (.cells [lj i12])), (7, some (.cells W8))] (F59_j13 n a0 g10 i11 i12) (QT Tryz.prog D (n + 8) p59c71 (QF false pc59_r 0 F59_e)) := by
  unfold F59_j13
  refine Sim.seq (.rs (.ru 2 [] (.thenN (.cd _ ?_ ?_))))
  ·exact Sim.su 5 [(2, some (.cells W0))] (.ret (.thenR .fn))
  ·refine Sim.skip (.thenN (.seq (.seq (.region0 (.open (og := F44s0 n g10) (fun r14 hr14 => ?_))))))
   refine SimI.ite (c := r14 = 0) (fun cr14 => ?_) (fun _ => ?_)
   ·refine SimI.se ⟨some 37, .gcall false false W17 [[]] 44 [5], none, []⟩ [(37, .one (.view 1 0 fun _ => []))] [(5, some (.cells (Command.cells g10)))] (pe (gq (ks := [5]) (ARGS := [qp 5 0]) ((F44s0_ok _ _ _ hr14).trans (congrArg some (F44s0_e_0 g10 r14 cr14))))) (.ru 2 [] (.thenN (.block (.loop (.succ (.seq (.rg [(1, qp 1 0), (2, qp 2 0), (5, qp 5 0), (6, qp 6 0), (7, qp 7 0), (37, .one (.view 1 0 fun _ => [])), (38, qj 0), (39, qj 0)] [(1, some (.cells [ls a0])), (2, some (.cells W0)), (5, some (.cells (Command.cells g10))), (6, some (.cells [lj i12])), (7, some (.cells W8))] (.ru 1 [] (.thenN (.seq (.cf (.exit (.thenX (.loopX (.blockX (.thenN (.pr [1, 2, 5, 6] [1, 2, 5, 6, 7, 300000] [] W80 (W52 a0 g10 i12) ?_)))))))))))))))))
    exact F59_j47_ok n a0 g10 i12
   ·refine SimI.ite (c := r14 = 1) (fun cr14 => ?_) (fun _ => ?_)
    ·refine SimI.se ⟨some 37, .gcall false false W17 [[]] 44 [5], none, []⟩ [(37, .one (.csl 300000 1 0 4))] [(5, some (.cells (Command.cells g10))), (300000, some (.cells W13))] (pe (eff_gcall (ks := [5]) (rks := []) (new := [300000]) (ARGS := [qp 5 0]) (args1 := [qp 5 0]) (args2 := [qp 1000000 0]) (os := [.cells (Command.cells g10)]) (os' := [.cells (Command.cells g10), .cells W50]) (os1 := [.cells (Command.cells g10), .cells W50]) (res := .one (.csl 1000001 1 0 4)) (res1 := .one (.csl 1000001 1 0 4)) (r := .one (.csl 300000 1 0 4)) (N := [(5, some (.cells (Command.cells g10))), (300000, some (.cells W13))]) (by kernel_rfl) (readA_ow (readA_keep (by kernel_rfl) (readA_nil))) (by kernel_rfl) (by kernel_rfl) (by kernel_rfl) (by kernel_rfl) ((F44s0_ok _ _ _ hr14).trans (congrArg some (F44s0_e_1 g10 r14 cr14))) (by kernel_rfl) (by kernel_rfl) (by kernel_rfl) rfl (by kernel_rfl) (by kernel_rfl) (by kernel_rfl))) (.ru 2 [] (.thenN (.block (.loop (.succ (.seq (.rg [(1, qp 1 0), (2, qp 2 0), (5, qp 5 0), (6, qp 6 0), (7, qp 7 0), (37, .one (.csl 300000 1 0 4)), (38, qj 4), (39, qj 0)] (W27 a0 g10 i12) (.ru 1 [] (.thenN (.seq (.ct (.skip (.thenN (.seq (.block (.su 3 [] (.sv 2 [] (.gp 46 (.slice 9 true false) [44, 45] none [] (fun hc => pr_cutL (s := a0) (k := .i64) (a := i12) Tryz.underlying9 hc) (.cl 47 true [[], []] 56 [46, kk 12] none (fun r21 => .tup (W76 r21)) (W114 a0 i12) (F56_ok _ _ _) (fun r21 => ?_))))))))))))))))))))
     refine SimI.ru 7 [] (.thenN (.su 4 (W115 i12 r21) (.seq (.su 2 [] (.cd _ ?_ ?_)))))
     ·refine Sim.su 5 [(5, some (.cells [lj g10.Kind, lj g10.ID, lj g10.Which, lj g10.To, lj g10.At.X, lj g10.At.Y, lj g10.F.a0.N, ls r21.1, lj g10.F.a1.N, ls g10.F.a1.Text, lj g10.F.a2.N, ls g10.F.a2.Text, lj g10.F.a3.N, ls g10.F.a3.Text, lj g10.Value.N, ls g10.Value.Text, lj g10.Client, lj g10.Session, lj g10.Rect.X0, lj g10.Rect.Y0, lj g10.Rect.X1, lj g10.Rect.Y1]))] (.region0 (.rv 2 [] (.bn ⟨some 63, .gcallv false false W46 [] 62 [], none, []⟩ (fun r22 => [(63, .tup [qj r22.1, qj r22.2.1])]) (fun r22 => (W89 a0 r22)) (fun r22 hr => pe (gv (ks := [1, 6]) (ARGS := [qp 1 0, qp 6 0]) (caps := [.ptr 1 0, .ptr 6 0]) (F84s0_ok _ _ _ _ hr))) (fun r22 => ?_))))
      refine SimI.ru 7 [(5, some (.cells (W61 g10 r22 r21)))] (.thenN (.pr W53 [1, 2, 5, 6, 7, 300000] [] [(1, qp 1 0), (2, qp 2 0), (5, qp 5 0), (6, qp 6 0), (7, qp 7 0), (15, qj r22.2.1), (37, .one (.csl 300000 1 0 4)), (38, qj 4), (39, qj 0)] [(1, some (.cells [ls a0])), (2, some (.cells W0)), (5, some (.cells (W61 g10 r22 r21))), (6, some (.cells [lj r22.2.2])), (7, some (.cells W8)), (300000, some (.cells W13))] ?_))
      exact F59_j26_ok n a0 (Command.mk g10.Kind g10.ID g10.Which g10.To g10.At (A4.mk (Field.mk r22.1 r21.1) g10.F.a1 g10.F.a2 g10.F.a3) g10.Value g10.Client g10.Session g10.Rect) r22.2.1 r22.2.2
     ·refine Sim.skip (.thenN (.pr W53 [1, 2, 5, 6, 7, 300000] [] [(1, qp 1 0), (2, qp 2 0), (5, qp 5 0), (6, qp 6 0), (7, qp 7 0), (15, qj r21.2.2), (37, .one (.csl 300000 1 0 4)), (38, qj 4), (39, qj 0)] (W30 a0 g10 i12 r21) ?_))
      exact F59_j26_ok n a0 g10 r21.2.2 (iw .i64 (i12 + r21.2.1))
    ·refine SimI.ite (c := r14 = 2) (fun cr14 => ?_) (fun _ => ?_)
     ·refine SimI.se ⟨some 37, .gcall false false W17 [[]] 44 [5], none, []⟩ [(37, .one (.csl 300000 1 0 1))] [(5, some (.cells (Command.cells g10))), (300000, some (.cells [.ptr 5 14]))] (pe (eff_gcall (ks := [5]) (rks := []) (new := [300000]) (ARGS := [qp 5 0]) (args1 := [qp 5 0]) (args2 := [qp 1000000 0]) (os := [.cells (Command.cells g10)]) (os' := [.cells (Command.cells g10), .cells [.ptr 1000000 14]]) (os1 := [.cells (Command.cells g10), .cells [.ptr 1000000 14]]) (res := .one (.csl 1000001 1 0 1)) (res1 := .one (.csl 1000001 1 0 1)) (r := .one (.csl 300000 1 0 1)) (N := [(5, some (.cells (Command.cells g10))), (300000, some (.cells [.ptr 5 14]))]) (by kernel_rfl) (readA_ow (readA_keep (by kernel_rfl) (readA_nil))) (by kernel_rfl) (by kernel_rfl) (by kernel_rfl) (by kernel_rfl) ((F44s0_ok _ _ _ hr14).trans (congrArg some (F44s0_e_2 g10 r14 cr14))) (by kernel_rfl) (by kernel_rfl) (by kernel_rfl) rfl (by kernel_rfl) (by kernel_rfl) (by kernel_rfl))) (.ru 2 [] (.thenN (.block (.loop (.succ (.seq (.rg [(1, qp 1 0), (2, qp 2 0), (5, qp 5 0), (6, qp 6 0), (7, qp 7 0), (37, .one (.csl 300000 1 0 1)), (38, qj 1), (39, qj 0)] (W47 a0 g10 i12) (.ru 1 [] (.thenN (.seq (.ct (.skip (.thenN (.seq (.block (.su 3 [] (.sv 2 [] (.gp 46 (.slice 9 true false) [44, 45] none [] (fun hc => pr_cutL (s := a0) (k := .i64) (a := i12) Tryz.underlying9 hc) (.cl 47 true [[], []] 56 [46, kk 12] none (fun r15 => .tup (W76 r15)) (W114 a0 i12) (F56_ok _ _ _) (fun r15 => ?_))))))))))))))))))))
      refine SimI.ru 7 [] (.thenN (.su 4 (W115 i12 r15) (.seq (.su 2 [] (.cd _ ?_ ?_)))))
      ·refine Sim.su 5 [(5, some (.cells [lj g10.Kind, lj g10.ID, lj g10.Which, lj g10.To, lj g10.At.X, lj g10.At.Y, lj g10.F.a0.N, ls g10.F.a0.Text, lj g10.F.a1.N, ls g10.F.a1.Text, lj g10.F.a2.N, ls g10.F.a2.Text, lj g10.F.a3.N, ls g10.F.a3.Text, lj g10.Value.N, ls r15.1, lj g10.Client, lj g10.Session, lj g10.Rect.X0, lj g10.Rect.Y0, lj g10.Rect.X1, lj g10.Rect.Y1]))] (.region0 (.rv 2 [] (.bn ⟨some 63, .gcallv false false W46 [] 62 [], none, []⟩ (fun r16 => [(63, .tup [qj r16.1, qj r16.2.1])]) (fun r16 => (W89 a0 r16)) (fun r16 hr => pe (gv (ks := [1, 6]) (ARGS := [qp 1 0, qp 6 0]) (caps := [.ptr 1 0, .ptr 6 0]) (F84s0_ok _ _ _ _ hr))) (fun r16 => ?_))))
       refine SimI.ru 7 [(5, some (.cells (W62 g10 r16 r15)))] (.thenN (.pr W53 [1, 2, 5, 6, 7, 300000] [] [(1, qp 1 0), (2, qp 2 0), (5, qp 5 0), (6, qp 6 0), (7, qp 7 0), (15, qj r16.2.1), (37, .one (.csl 300000 1 0 1)), (38, qj 1), (39, qj 0)] [(1, some (.cells [ls a0])), (2, some (.cells W0)), (5, some (.cells (W62 g10 r16 r15))), (6, some (.cells [lj r16.2.2])), (7, some (.cells W8)), (300000, some (.cells [.ptr 5 14]))] ?_))
       exact F59_j20_ok n a0 (Command.mk g10.Kind g10.ID g10.Which g10.To g10.At g10.F (Field.mk r16.1 r15.1) g10.Client g10.Session g10.Rect) r16.2.1 r16.2.2
      ·refine Sim.skip (.thenN (.pr W53 [1, 2, 5, 6, 7, 300000] [] [(1, qp 1 0), (2, qp 2 0), (5, qp 5 0), (6, qp 6 0), (7, qp 7 0), (15, qj r15.2.2), (37, .one (.csl 300000 1 0 1)), (38, qj 1), (39, qj 0)] [(1, some (.cells [ls a0])), (2, some (.cells W0)), (5, some (.cells (Command.cells g10))), (6, some (.cells [lj (iw .i64 (i12 + r15.2.1))])), (7, some (.cells W8)), (300000, some (.cells [.ptr 5 14]))] ?_))
       exact F59_j20_ok n a0 g10 r15.2.2 (iw .i64 (i12 + r15.2.1))
     ·exact SimI.vac rfl
def F59 (n : Nat) (a0 : ByteArray) : Option (Command × Int × Int) :=
 (F86s0 n (Command.mk 0 0 0 0 (Point.mk 0 0) (A4.mk (Field.mk 0 ByteArray.empty) (Field.mk 0 ByteArray.empty) (Field.mk 0 ByteArray.empty) (Field.mk 0 ByteArray.empty)) (Field.mk 0 ByteArray.empty) 0 0 (Rect.mk 0 0 0 0)) a0 0).bind fun (r1 : (Int × Command × Int)) =>
 if r1.1 != 0 then
  some ((Command.mk 0 0 0 0 (Point.mk 0 0) (A4.mk (Field.mk 0 ByteArray.empty) (Field.mk 0 ByteArray.empty) (Field.mk 0 ByteArray.empty) (Field.mk 0 ByteArray.empty)) (Field.mk 0 ByteArray.empty) 0 0 (Rect.mk 0 0 0 0)), 0, r1.1)
 else
  (F43s0 n r1.2.1).bind fun (r2 : Nat) =>
  if r2 = 0 then
   (F86s7 n a0 r1.2.2).bind fun (r9 : Unit) =>
   F59_j13 n a0 r1.2.1 0 r1.2.2
  else
   if r2 = 1 then
    (F86s6 n r1.2.1 a0 r1.2.2).bind fun (r8 : (Int × Command × Int)) =>
    F59_j13 n a0 r8.2.1 r8.1 r8.2.2
   else
    if r2 = 2 then
     (F86s5 n r1.2.1 a0 r1.2.2).bind fun (r7 : (Int × Command × Int)) =>
     F59_j13 n a0 r7.2.1 r7.1 r7.2.2
    else
     if r2 = 3 then
      (F86s4 n r1.2.1 a0 r1.2.2).bind fun (r6 : (Int × Command × Int)) =>
      F59_j13 n a0 r6.2.1 r6.1 r6.2.2
     else
      if r2 = 4 then
       (F86s3 n r1.2.1 a0 r1.2.2).bind fun (r5 : (Int × Command × Int)) =>
       F59_j13 n a0 r5.2.1 r5.1 r5.2.2
      else
       if r2 = 5 then
        (F86s2 n r1.2.1 a0 r1.2.2).bind fun (r4 : (Int × Command × Int)) =>
        F59_j13 n a0 r4.2.1 r4.1 r4.2.2
       else
        if r2 = 6 then
         (F86s1 n r1.2.1 a0 r1.2.2).bind fun (r3 : (Int × Command × Int)) =>
         F59_j13 n a0 r3.2.1 r3.1 r3.2.2
        else
         none
theorem F59_ok (n : Nat) (a0 : ByteArray) : ∀ r, F59 n a0 = some r → D 59 [.one (ls a0)] [] = some (F59_e r) := by
 refine fn_to (D := D) (n := n + 8) (nt := 90) (rs := pc59_r) (c := p59c78) (L := [(0, qs a0)]) (M := []) (k := 0) rfl rfl rfl rfl rfl rfl rfl ?_
 unfold F59
 refine Sim.su 4 [(2, some (.cells W0)), (1, some (.cells [ls a0]))] (.su 1 [(5, some (.cells W0))] (.su 2 [(6, some (.cells [lj 0])), (6, some (.cells [lj 0]))] (.su 3 [(7, some (.cells W8)), (7, some (.cells [.val (.nilFunc)]))] (.su 2 [] (.seq (.sv 5 [(24, some (.cells [.ptr 5 0, .ptr 5 16, .ptr 5 17]))] (.bn ⟨some 25, .gcallv false false [1, 5, 6, 7, 24, 300000, 300001, 300002, 300003, 300004, 300005, 300006, 300007] [[(0, 1)]] 20 [24], none, []⟩ (fun r1 => [(25, qj r1.1)]) (fun r1 => [(24, some (.cells [.ptr 5 0, .ptr 5 16, .ptr 5 17])), (5, some (.cells (Command.cells r1.2.1))), (7, some (.cells W8)), (1, some (.cells [ls a0])), (6, some (.cells [lj r1.2.2]))]) (fun r1 hr => pe (gv (ks := [24, 5, 7, 1, 6]) (ARGS := [.one (.csl 24 1 0 3), qp 7 0]) (caps := [.ptr 7 0]) (F86s0_ok _ _ _ _ _ hr))) (fun r1 => ?_))))))))
 refine SimI.ru 1 [] (.thenN (.su 2 [] (.cd _ ?_ ?_)))
 ·exact Sim.su 5 [(2, some (.cells W0))] (.ret (.thenR .fn))
 ·refine Sim.skip (.thenN (.seq (.sv 1 [] (.open (og := F43s0 n r1.2.1) (fun r2 hr2 => ?_)))))
  refine SimI.ite (c := r2 = 0) (fun cr2 => ?_) (fun _ => ?_)
  ·refine SimI.se ⟨some 31, .gcall false false W17 [[]] 43 [5], none, []⟩ [(31, .one (.view 1 0 fun _ => []))] [(5, some (.cells (Command.cells r1.2.1)))] (pe (gq (ks := [5]) (ARGS := [qp 5 0]) ((F43s0_ok _ _ _ hr2).trans (congrArg some (F43s0_e_0 r1.2.1 r2 cr2))))) (.bn ⟨some 32, .gcallv false false W22 [[(0, 1)]] 30 [31], none, []⟩ (fun r9 => [(32, qj 0)]) (fun r9 => [(7, some (.cells W8)), (1, some (.cells [ls a0])), (6, some (.cells [lj r1.2.2]))]) (fun r9 hr => pe (gv (ks := [7, 1, 6]) (ARGS := [.one (.view 1 0 fun _ => []), qp 7 0]) (caps := [.ptr 7 0]) (F86s7_ok _ _ _ _ hr))) (fun r9 => ?_))
   refine SimI.ru 1 [] (.thenN (.pr [1, 2, 5, 6, 7, 10] W88 [] [(1, qp 1 0), (2, qp 2 0), (5, qp 5 0), (6, qp 6 0), (7, qp 7 0), (10, qj 0)] (W28 a0 r1) ?_))
   exact F59_j13_ok n a0 r1.2.1 0 r1.2.2
  ·refine SimI.ite (c := r2 = 1) (fun cr2 => ?_) (fun _ => ?_)
   ·refine SimI.se ⟨some 31, .gcall false false W17 [[]] 43 [5], none, []⟩ [(31, .one (.csl 300000 1 0 2))] [(5, some (.cells (Command.cells r1.2.1))), (300000, some (.cells [.ptr 5 4, .ptr 5 5]))] (pe (eff_gcall (ks := [5]) (rks := []) (new := [300000]) (ARGS := [qp 5 0]) (args1 := [qp 5 0]) (args2 := [qp 1000000 0]) (os := [.cells (Command.cells r1.2.1)]) (os' := [.cells (Command.cells r1.2.1), .cells W98]) (os1 := [.cells (Command.cells r1.2.1), .cells W98]) (res := .one (.csl 1000001 1 0 2)) (res1 := .one (.csl 1000001 1 0 2)) (r := .one (.csl 300000 1 0 2)) (N := [(5, some (.cells (Command.cells r1.2.1))), (300000, some (.cells [.ptr 5 4, .ptr 5 5]))]) (by kernel_rfl) (readA_ow (readA_keep (by kernel_rfl) (readA_nil))) (by kernel_rfl) (by kernel_rfl) (by kernel_rfl) (by kernel_rfl) ((F43s0_ok _ _ _ hr2).trans (congrArg some (F43s0_e_1 r1.2.1 r2 cr2))) (by kernel_rfl) (by kernel_rfl) (by kernel_rfl) rfl (by kernel_rfl) (by kernel_rfl) (by kernel_rfl))) (.bn ⟨some 32, .gcallv false false W22 [[(0, 1)]] 30 [31], none, []⟩ (fun r8 => [(32, qj r8.1)]) (fun r8 => [(300000, some (.cells [.ptr 5 4, .ptr 5 5])), (5, some (.cells (Command.cells r8.2.1))), (7, some (.cells W8)), (1, some (.cells [ls a0])), (6, some (.cells [lj r8.2.2]))]) (fun r8 hr => pe (gv (ks := [300000, 5, 7, 1, 6]) (ARGS := [.one (.csl 300000 1 0 2), qp 7 0]) (caps := [.ptr 7 0]) (F86s6_ok _ _ _ _ _ hr))) (fun r8 => ?_))
    refine SimI.ru 1 [] (.thenN (.pr [1, 2, 5, 6, 7, 10] W88 [] (W40 r8) (W28 a0 r8) ?_))
    exact F59_j13_ok n a0 r8.2.1 r8.1 r8.2.2
   ·refine SimI.ite (c := r2 = 2) (fun cr2 => ?_) (fun _ => ?_)
    ·refine SimI.se ⟨some 31, .gcall false false W17 [[]] 43 [5], none, []⟩ [(31, .one (.csl 300000 1 0 3))] [(5, some (.cells (Command.cells r1.2.1))), (300000, some (.cells [.ptr 5 1, .ptr 5 4, .ptr 5 5]))] (pe (eff_gcall (ks := [5]) (rks := []) (new := [300000]) (ARGS := [qp 5 0]) (args1 := [qp 5 0]) (args2 := [qp 1000000 0]) (os := [.cells (Command.cells r1.2.1)]) (os' := [.cells (Command.cells r1.2.1), .cells W68]) (os1 := [.cells (Command.cells r1.2.1), .cells W68]) (res := .one (.csl 1000001 1 0 3)) (res1 := .one (.csl 1000001 1 0 3)) (r := .one (.csl 300000 1 0 3)) (N := [(5, some (.cells (Command.cells r1.2.1))), (300000, some (.cells [.ptr 5 1, .ptr 5 4, .ptr 5 5]))]) (by kernel_rfl) (readA_ow (readA_keep (by kernel_rfl) (readA_nil))) (by kernel_rfl) (by kernel_rfl) (by kernel_rfl) (by kernel_rfl) ((F43s0_ok _ _ _ hr2).trans (congrArg some (F43s0_e_2 r1.2.1 r2 cr2))) (by kernel_rfl) (by kernel_rfl) (by kernel_rfl) rfl (by kernel_rfl) (by kernel_rfl) (by kernel_rfl))) (.bn ⟨some 32, .gcallv false false W22 [[(0, 1)]] 30 [31], none, []⟩ (fun r7 => [(32, qj r7.1)]) (fun r7 => [(300000, some (.cells [.ptr 5 1, .ptr 5 4, .ptr 5 5])), (5, some (.cells (Command.cells r7.2.1))), (7, some (.cells W8)), (1, some (.cells [ls a0])), (6, some (.cells [lj r7.2.2]))]) (fun r7 hr => pe (gv (ks := [300000, 5, 7, 1, 6]) (ARGS := [.one (.csl 300000 1 0 3), qp 7 0]) (caps := [.ptr 7 0]) (F86s5_ok _ _ _ _ _ hr))) (fun r7 => ?_))
     refine SimI.ru 1 [] (.thenN (.pr [1, 2, 5, 6, 7, 10] W88 [] (W40 r7) (W28 a0 r7) ?_))
     exact F59_j13_ok n a0 r7.2.1 r7.1 r7.2.2
    ·refine SimI.ite (c := r2 = 3) (fun cr2 => ?_) (fun _ => ?_)
     ·refine SimI.se ⟨some 31, .gcall false false W17 [[]] 43 [5], none, []⟩ [(31, .one (.csl 300000 1 0 2))] [(5, some (.cells (Command.cells r1.2.1))), (300000, some (.cells [.ptr 5 1, .ptr 5 2]))] (pe (eff_gcall (ks := [5]) (rks := []) (new := [300000]) (ARGS := [qp 5 0]) (args1 := [qp 5 0]) (args2 := [qp 1000000 0]) (os := [.cells (Command.cells r1.2.1)]) (os' := [.cells (Command.cells r1.2.1), .cells W99]) (os1 := [.cells (Command.cells r1.2.1), .cells W99]) (res := .one (.csl 1000001 1 0 2)) (res1 := .one (.csl 1000001 1 0 2)) (r := .one (.csl 300000 1 0 2)) (N := [(5, some (.cells (Command.cells r1.2.1))), (300000, some (.cells [.ptr 5 1, .ptr 5 2]))]) (by kernel_rfl) (readA_ow (readA_keep (by kernel_rfl) (readA_nil))) (by kernel_rfl) (by kernel_rfl) (by kernel_rfl) (by kernel_rfl) ((F43s0_ok _ _ _ hr2).trans (congrArg some (F43s0_e_3 r1.2.1 r2 cr2))) (by kernel_rfl) (by kernel_rfl) (by kernel_rfl) rfl (by kernel_rfl) (by kernel_rfl) (by kernel_rfl))) (.bn ⟨some 32, .gcallv false false W22 [[(0, 1)]] 30 [31], none, []⟩ (fun r6 => [(32, qj r6.1)]) (fun r6 => [(300000, some (.cells [.ptr 5 1, .ptr 5 2])), (5, some (.cells (Command.cells r6.2.1))), (7, some (.cells W8)), (1, some (.cells [ls a0])), (6, some (.cells [lj r6.2.2]))]) (fun r6 hr => pe (gv (ks := [300000, 5, 7, 1, 6]) (ARGS := [.one (.csl 300000 1 0 2), qp 7 0]) (caps := [.ptr 7 0]) (F86s4_ok _ _ _ _ _ hr))) (fun r6 => ?_))
      refine SimI.ru 1 [] (.thenN (.pr [1, 2, 5, 6, 7, 10] W88 [] (W40 r6) (W28 a0 r6) ?_))
      exact F59_j13_ok n a0 r6.2.1 r6.1 r6.2.2
     ·refine SimI.ite (c := r2 = 4) (fun cr2 => ?_) (fun _ => ?_)
      ·refine SimI.se ⟨some 31, .gcall false false W17 [[]] 43 [5], none, []⟩ [(31, .one (.csl 300000 1 0 1))] [(5, some (.cells (Command.cells r1.2.1))), (300000, some (.cells [.ptr 5 1]))] (pe (eff_gcall (ks := [5]) (rks := []) (new := [300000]) (ARGS := [qp 5 0]) (args1 := [qp 5 0]) (args2 := [qp 1000000 0]) (os := [.cells (Command.cells r1.2.1)]) (os' := [.cells (Command.cells r1.2.1), .cells [.ptr 1000000 1]]) (os1 := [.cells (Command.cells r1.2.1), .cells [.ptr 1000000 1]]) (res := .one (.csl 1000001 1 0 1)) (res1 := .one (.csl 1000001 1 0 1)) (r := .one (.csl 300000 1 0 1)) (N := [(5, some (.cells (Command.cells r1.2.1))), (300000, some (.cells [.ptr 5 1]))]) (by kernel_rfl) (readA_ow (readA_keep (by kernel_rfl) (readA_nil))) (by kernel_rfl) (by kernel_rfl) (by kernel_rfl) (by kernel_rfl) ((F43s0_ok _ _ _ hr2).trans (congrArg some (F43s0_e_4 r1.2.1 r2 cr2))) (by kernel_rfl) (by kernel_rfl) (by kernel_rfl) rfl (by kernel_rfl) (by kernel_rfl) (by kernel_rfl))) (.bn ⟨some 32, .gcallv false false W22 [[(0, 1)]] 30 [31], none, []⟩ (fun r5 => [(32, qj r5.1)]) (fun r5 => [(300000, some (.cells [.ptr 5 1])), (5, some (.cells (Command.cells r5.2.1))), (7, some (.cells W8)), (1, some (.cells [ls a0])), (6, some (.cells [lj r5.2.2]))]) (fun r5 hr => pe (gv (ks := [300000, 5, 7, 1, 6]) (ARGS := [.one (.csl 300000 1 0 1), qp 7 0]) (caps := [.ptr 7 0]) (F86s3_ok _ _ _ _ _ hr))) (fun r5 => ?_))
       refine SimI.ru 1 [] (.thenN (.pr [1, 2, 5, 6, 7, 10] W88 [] (W40 r5) (W28 a0 r5) ?_))
       exact F59_j13_ok n a0 r5.2.1 r5.1 r5.2.2
      ·refine SimI.ite (c := r2 = 5) (fun cr2 => ?_) (fun _ => ?_)
       ·refine SimI.se ⟨some 31, .gcall false false W17 [[]] 43 [5], none, []⟩ [(31, .one (.csl 300000 1 0 2))] [(5, some (.cells (Command.cells r1.2.1))), (300000, some (.cells [.ptr 5 2, .ptr 5 3]))] (pe (eff_gcall (ks := [5]) (rks := []) (new := [300000]) (ARGS := [qp 5 0]) (args1 := [qp 5 0]) (args2 := [qp 1000000 0]) (os := [.cells (Command.cells r1.2.1)]) (os' := [.cells (Command.cells r1.2.1), .cells W100]) (os1 := [.cells (Command.cells r1.2.1), .cells W100]) (res := .one (.csl 1000001 1 0 2)) (res1 := .one (.csl 1000001 1 0 2)) (r := .one (.csl 300000 1 0 2)) (N := [(5, some (.cells (Command.cells r1.2.1))), (300000, some (.cells [.ptr 5 2, .ptr 5 3]))]) (by kernel_rfl) (readA_ow (readA_keep (by kernel_rfl) (readA_nil))) (by kernel_rfl) (by kernel_rfl) (by kernel_rfl) (by kernel_rfl) ((F43s0_ok _ _ _ hr2).trans (congrArg some (F43s0_e_5 r1.2.1 r2 cr2))) (by kernel_rfl) (by kernel_rfl) (by kernel_rfl) rfl (by kernel_rfl) (by kernel_rfl) (by kernel_rfl))) (.bn ⟨some 32, .gcallv false false W22 [[(0, 1)]] 30 [31], none, []⟩ (fun r4 => [(32, qj r4.1)]) (fun r4 => [(300000, some (.cells [.ptr 5 2, .ptr 5 3])), (5, some (.cells (Command.cells r4.2.1))), (7, some (.cells W8)), (1, some (.cells [ls a0])), (6, some (.cells [lj r4.2.2]))]) (fun r4 hr => pe (gv (ks := [300000, 5, 7, 1, 6]) (ARGS := [.one (.csl 300000 1 0 2), qp 7 0]) (caps := [.ptr 7 0]) (F86s2_ok _ _ _ _ _ hr))) (fun r4 => ?_))
        refine SimI.ru 1 [] (.thenN (.pr [1, 2, 5, 6, 7, 10] W88 [] (W40 r4) (W28 a0 r4) ?_))
        exact F59_j13_ok n a0 r4.2.1 r4.1 r4.2.2
       ·refine SimI.ite (c := r2 = 6) (fun cr2 => ?_) (fun _ => ?_)
        ·refine SimI.se ⟨some 31, .gcall false false W17 [[]] 43 [5], none, []⟩ [(31, .one (.csl 300000 1 0 4))] [(5, some (.cells (Command.cells r1.2.1))), (300000, some (.cells W111))] (pe (eff_gcall (ks := [5]) (rks := []) (new := [300000]) (ARGS := [qp 5 0]) (args1 := [qp 5 0]) (args2 := [qp 1000000 0]) (os := [.cells (Command.cells r1.2.1)]) (os' := [.cells (Command.cells r1.2.1), .cells W48]) (os1 := [.cells (Command.cells r1.2.1), .cells W48]) (res := .one (.csl 1000001 1 0 4)) (res1 := .one (.csl 1000001 1 0 4)) (r := .one (.csl 300000 1 0 4)) (N := [(5, some (.cells (Command.cells r1.2.1))), (300000, some (.cells W111))]) (by kernel_rfl) (readA_ow (readA_keep (by kernel_rfl) (readA_nil))) (by kernel_rfl) (by kernel_rfl) (by kernel_rfl) (by kernel_rfl) ((F43s0_ok _ _ _ hr2).trans (congrArg some (F43s0_e_6 r1.2.1 r2 cr2))) (by kernel_rfl) (by kernel_rfl) (by kernel_rfl) rfl (by kernel_rfl) (by kernel_rfl) (by kernel_rfl))) (.bn ⟨some 32, .gcallv false false W22 [[(0, 1)]] 30 [31], none, []⟩ (fun r3 => [(32, qj r3.1)]) (fun r3 => [(300000, some (.cells W111)), (5, some (.cells (Command.cells r3.2.1))), (7, some (.cells W8)), (1, some (.cells [ls a0])), (6, some (.cells [lj r3.2.2]))]) (fun r3 hr => pe (gv (ks := [300000, 5, 7, 1, 6]) (ARGS := [.one (.csl 300000 1 0 4), qp 7 0]) (caps := [.ptr 7 0]) (F86s1_ok _ _ _ _ _ hr))) (fun r3 => ?_))
         refine SimI.ru 1 [] (.thenN (.pr [1, 2, 5, 6, 7, 10] W88 [] (W40 r3) (W28 a0 r3) ?_))
         exact F59_j13_ok n a0 r3.2.1 r3.1 r3.2.2
        ·exact SimI.vac rfl
def F28_e : (Note × Reader) → PV × List Ob := fun r => (.agg [li .i64 r.1.From, li .i64 r.1.Beat, vw Thing.cod r.1.Moved, vw Hand.cod r.1.Hands, vw Thing.cod r.1.Given, vw Command.cod r.1.Watch], [.cells (Reader.cells r.2)])
def F28_l28 (n : Nat) (r1 r2 : (Int × Reader)) (r3 : ((List Thing) × Reader)) (r4 : ((List Thing) × Reader)) (l14 : (List Hand)) (r18 : (Int × Reader)) : Nat → Reader → Int → (List Command) → Option (Note × Reader)
 | 0, _, _, _ => none
 | m + 1, g25, i26, l27 =>
  if decide (i26 < r18.1) then
   if g25.fails then
    some ((Note.mk r1.1 r2.1 r3.1 l14 r4.1 l27), g25)
   else
    if 0 ≤ (g25.at_ : Int) ∧ (g25.at_ : Int) ≤ (g25.s.size : Int) then
     (F59 n (g25.s.extract g25.at_.toNat g25.s.size)).bind fun (r29 : (Command × Int × Int)) =>
     (F60 n g25 r29.2.1 r29.2.2).bind fun (r30 : Reader) =>
     if ((l27).length + 1) * 216 ≤ maxCells ∧ (l27).length + 1 ≤ maxCells then
      (F28_l28 n r1 r2 r3 r4 l14 r18 m) r30 (IntKind.wrap .i64 (i26 + 1)) (l27 ++ [r29.1])
     else none
    else none
  else
   some ((Note.mk r1.1 r2.1 r3.1 l14 r4.1 l27), g25)
theorem F28_l28_ok (n : Nat) (r1 r2 : (Int × Reader)) (r3 : ((List Thing) × Reader)) (r4 : ((List Thing) × Reader)) (l14 : (List Hand)) (r18 : (Int × Reader)) : ∀ (m : Nat) (g25 : Reader) (i26 : Int) (l27 : (List Command)), SimL Tryz.prog D (n + 8) m p28c46 (W85 r18 i26) (W29 r1 r2 r3 l14 r4 l27 g25) (F28_l28 n r1 r2 r3 r4 l14 r18 m g25 i26 l27) (QB 2 (QT Tryz.prog D (n + 8) p28c52 (QF false pc28_r 1 F28_e))) := by
 intro m_l28
 induction m_l28 with
 | zero => intro g25 i26 l27; exact SimL.zero'  rfl
 | succ m_l28 ih_l28 =>
  intro g25 i26 l27
  refine SimL.succ ?_
  unfold F28_l28
  refine Sim.seq (.rg (W85 r18 i26) (W29 r1 r2 r3 l14 r4 l27 g25) (.ru 1 [] (.thenN (.seq (.cd _ ?_ ?_)))))
  ·refine Sim.skip (.thenN (.seq (.block (.seq (.su 4 [] (.cd _ ?_ ?_))))))
   ·exact Sim.exit (.thenX (.blockY rfl (.thenX (.loopX (.blockX (.thenN (.su 2 [(2, some (.cells (W6 r1 r2 r3 l14 r4 l27)))] (.ret (.fin (out_with (vs := [.agg (Note.cells (Note.mk r1.1 r2.1 r3.1 l14 r4.1 l27))]) (ress_cons (resOf_cagg (k := 2) (off := 0) (c0 := (W6 r1 r2 r3 l14 r4 l27)) (cs := (W6 r1 r2 r3 l14 r4 l27)) (by kernel_rfl) (by kernel_rfl) (by kernel_rfl) (finL_keep (by kernel_rfl) (finL_keep (by kernel_rfl) (finL_keep (by kernel_rfl) (finL_own (c := Hand.cod) (k := 100027) (g := 0) (el := 40) (l := l14) (by kernel_rfl) (by kernel_rfl) (finL_keep (by kernel_rfl) (finL_own (c := Command.cod) (k := 100064) (g := 0) (el := 56) (l := l27) (by kernel_rfl) (by kernel_rfl) (finL_nil))))))) (by kernel_rfl)) (ress_nil)) (by kernel_rfl)))))))))))
   ·refine Sim.skip (.thenN (.sv 8 [] (.gp 54 (.slice 9 true false) [49, 53] none [(49, .imm), (53, .imm)] (fun hc => pr_cutL (s := g25.s) (k := .i64) (a := g25.at_) Tryz.underlying9 hc) (.cm 55 false [[]] 59 [54] none [(54, .imm)] (F59_ok _ _) (fun r29 => ?_)))))
    refine SimI.ru 8 [(4, some (.cells (Command.cells r29.1))), (4, some (.cells W0))] (.thenN (.sv 3 [] (.bn ⟨some 62, .call true [[], [], []] 60 [59, 60, 61], none, []⟩ (fun r30 => [(62, tz)]) (fun r30 => (W57 r30)) (fun r30 hr => pe (qc (ARGS := [qp 1000000 0, qj r29.2.1, qj r29.2.2]) (ks := [1000000]) (os := [(Reader.cells g25)]) (os' := [(Reader.cells r30)]) (F60_ok _ _ _ _ _ hr))) (fun r30 => ?_))))
    refine SimI.dn (.thenN (.region0 (.rv 4 [] (.gu ⟨some 67, .app 100064 56 22 216 64 66, none, []⟩ [(67, .one (.osl 100064 (0 + 1) 0 ((l27 ++ [r29.1])).length))] [(100064, some (.arr 56 Command.cod.sz (0 + 1) ((l27 ++ [r29.1])).length (getOf Command.cod (l27 ++ [r29.1]))))] (fun hc => pe (eff_appO (c := Command.cod) (g := 0) (l := l27) (a := r29.1) (by kernel_rfl) (by kernel_rfl) (by kernel_rfl) (by kernel_rfl) hc)) (.ru 2 [(3, some (.cells [lj r1.1, lj r2.1, vw Thing.cod r3.1, .osl 100027 0 0 (l14).length, vw Thing.cod r4.1, .osl 100064 (0 + 1) 0 ((l27 ++ [r29.1])).length]))] (.blockN (.thenN (.region0 (.ru 2 [] (.loopN (.pr [0, 2, 3, 38, 39] W106 [(true, 3, 5, 100064, 56, 22)] [(0, qp 1000000 0), (2, qp 2 0), (3, qp 3 0), (38, qj r18.1), (39, qj (iw .i64 (i26 + 1)))] (W91 r1 r2 r3 l14 r4 l27 r29 r30) ?_)))))))))))
    exact ih_l28 r30 (iw .i64 (i26 + 1)) (l27 ++ [r29.1])
  ·exact Sim.exit (.thenX (.loopX (.blockX (.thenN (.su 2 [(2, some (.cells (W6 r1 r2 r3 l14 r4 l27)))] (.ret (.fin (out_with (vs := [.agg (Note.cells (Note.mk r1.1 r2.1 r3.1 l14 r4.1 l27))]) (ress_cons (resOf_cagg (k := 2) (off := 0) (c0 := (W6 r1 r2 r3 l14 r4 l27)) (cs := (W6 r1 r2 r3 l14 r4 l27)) (by kernel_rfl) (by kernel_rfl) (by kernel_rfl) (finL_keep (by kernel_rfl) (finL_keep (by kernel_rfl) (finL_keep (by kernel_rfl) (finL_own (c := Hand.cod) (k := 100027) (g := 0) (el := 40) (l := l14) (by kernel_rfl) (by kernel_rfl) (finL_keep (by kernel_rfl) (finL_own (c := Command.cod) (k := 100064) (g := 0) (el := 56) (l := l27) (by kernel_rfl) (by kernel_rfl) (finL_nil))))))) (by kernel_rfl)) (ress_nil)) (by kernel_rfl)))))))))
def F28_l41 (n : Nat) (r1 r2 : (Int × Reader)) (r3 : ((List Thing) × Reader)) (r4 : ((List Thing) × Reader)) (l14 : (List Hand)) (r31 : (Int × Reader)) : Nat → Reader → Int → (List Command) → Option (Note × Reader)
 | 0, _, _, _ => none
 | m + 1, g38, i39, l40 =>
  if decide (i39 < r31.1) then
   if g38.fails then
    some ((Note.mk r1.1 r2.1 r3.1 l14 r4.1 l40), g38)
   else
    if 0 ≤ (g38.at_ : Int) ∧ (g38.at_ : Int) ≤ (g38.s.size : Int) then
     (F59 n (g38.s.extract g38.at_.toNat g38.s.size)).bind fun (r42 : (Command × Int × Int)) =>
     (F60 n g38 r42.2.1 r42.2.2).bind fun (r43 : Reader) =>
     if ((l40).length + 1) * 216 ≤ maxCells ∧ (l40).length + 1 ≤ maxCells then
      (F28_l41 n r1 r2 r3 r4 l14 r31 m) r43 (IntKind.wrap .i64 (i39 + 1)) (l40 ++ [r42.1])
     else none
    else none
  else
   some ((Note.mk r1.1 r2.1 r3.1 l14 r4.1 l40), g38)
theorem F28_l41_ok (n : Nat) (r1 r2 : (Int × Reader)) (r3 : ((List Thing) × Reader)) (r4 : ((List Thing) × Reader)) (l14 : (List Hand)) (r31 : (Int × Reader)) : ∀ (m : Nat) (g38 : Reader) (i39 : Int) (l40 : (List Command)), SimL Tryz.prog D (n + 8) m p28c46 (W85 r31 i39) (W29 r1 r2 r3 l14 r4 l40 g38) (F28_l41 n r1 r2 r3 r4 l14 r31 m g38 i39 l40) (QB 2 (QT Tryz.prog D (n + 8) p28c52 (QF false pc28_r 1 F28_e))) := by
 intro m_l41
 induction m_l41 with
 | zero => intro g38 i39 l40; exact SimL.zero'  rfl
 | succ m_l41 ih_l41 =>
  intro g38 i39 l40
  refine SimL.succ ?_
  unfold F28_l41
  refine Sim.seq (.rg (W85 r31 i39) (W29 r1 r2 r3 l14 r4 l40 g38) (.ru 1 [] (.thenN (.seq (.cd _ ?_ ?_)))))
  ·refine Sim.skip (.thenN (.seq (.block (.seq (.su 4 [] (.cd _ ?_ ?_))))))
   ·exact Sim.exit (.thenX (.blockY rfl (.thenX (.loopX (.blockX (.thenN (.su 2 [(2, some (.cells (W6 r1 r2 r3 l14 r4 l40)))] (.ret (.fin (out_with (vs := [.agg (Note.cells (Note.mk r1.1 r2.1 r3.1 l14 r4.1 l40))]) (ress_cons (resOf_cagg (k := 2) (off := 0) (c0 := (W6 r1 r2 r3 l14 r4 l40)) (cs := (W6 r1 r2 r3 l14 r4 l40)) (by kernel_rfl) (by kernel_rfl) (by kernel_rfl) (finL_keep (by kernel_rfl) (finL_keep (by kernel_rfl) (finL_keep (by kernel_rfl) (finL_own (c := Hand.cod) (k := 100027) (g := 0) (el := 40) (l := l14) (by kernel_rfl) (by kernel_rfl) (finL_keep (by kernel_rfl) (finL_own (c := Command.cod) (k := 100064) (g := 0) (el := 56) (l := l40) (by kernel_rfl) (by kernel_rfl) (finL_nil))))))) (by kernel_rfl)) (ress_nil)) (by kernel_rfl)))))))))))
   ·refine Sim.skip (.thenN (.sv 8 [] (.gp 54 (.slice 9 true false) [49, 53] none [(49, .imm), (53, .imm)] (fun hc => pr_cutL (s := g38.s) (k := .i64) (a := g38.at_) Tryz.underlying9 hc) (.cm 55 false [[]] 59 [54] none [(54, .imm)] (F59_ok _ _) (fun r42 => ?_)))))
    refine SimI.ru 8 [(4, some (.cells (Command.cells r42.1))), (4, some (.cells W0))] (.thenN (.sv 3 [] (.bn ⟨some 62, .call true [[], [], []] 60 [59, 60, 61], none, []⟩ (fun r43 => [(62, tz)]) (fun r43 => (W57 r43)) (fun r43 hr => pe (qc (ARGS := [qp 1000000 0, qj r42.2.1, qj r42.2.2]) (ks := [1000000]) (os := [(Reader.cells g38)]) (os' := [(Reader.cells r43)]) (F60_ok _ _ _ _ _ hr))) (fun r43 => ?_))))
    refine SimI.dn (.thenN (.region0 (.rv 4 [] (.gu ⟨some 67, .app 100064 56 22 216 64 66, none, []⟩ [(67, .one (.osl 100064 (0 + 1) 0 ((l40 ++ [r42.1])).length))] [(100064, some (.arr 56 Command.cod.sz (0 + 1) ((l40 ++ [r42.1])).length (getOf Command.cod (l40 ++ [r42.1]))))] (fun hc => pe (eff_appO (c := Command.cod) (g := 0) (l := l40) (a := r42.1) (by kernel_rfl) (by kernel_rfl) (by kernel_rfl) (by kernel_rfl) hc)) (.ru 2 [(3, some (.cells [lj r1.1, lj r2.1, vw Thing.cod r3.1, .osl 100027 0 0 (l14).length, vw Thing.cod r4.1, .osl 100064 (0 + 1) 0 ((l40 ++ [r42.1])).length]))] (.blockN (.thenN (.region0 (.ru 2 [] (.loopN (.pr [0, 2, 3, 38, 39] W106 [(true, 3, 5, 100064, 56, 22)] [(0, qp 1000000 0), (2, qp 2 0), (3, qp 3 0), (38, qj r31.1), (39, qj (iw .i64 (i39 + 1)))] (W91 r1 r2 r3 l14 r4 l40 r42 r43) ?_)))))))))))
    exact ih_l41 r43 (iw .i64 (i39 + 1)) (l40 ++ [r42.1])
  ·exact Sim.exit (.thenX (.loopX (.blockX (.thenN (.su 2 [(2, some (.cells (W6 r1 r2 r3 l14 r4 l40)))] (.ret (.fin (out_with (vs := [.agg (Note.cells (Note.mk r1.1 r2.1 r3.1 l14 r4.1 l40))]) (ress_cons (resOf_cagg (k := 2) (off := 0) (c0 := (W6 r1 r2 r3 l14 r4 l40)) (cs := (W6 r1 r2 r3 l14 r4 l40)) (by kernel_rfl) (by kernel_rfl) (by kernel_rfl) (finL_keep (by kernel_rfl) (finL_keep (by kernel_rfl) (finL_keep (by kernel_rfl) (finL_own (c := Hand.cod) (k := 100027) (g := 0) (el := 40) (l := l14) (by kernel_rfl) (by kernel_rfl) (finL_keep (by kernel_rfl) (finL_own (c := Command.cod) (k := 100064) (g := 0) (el := 56) (l := l40) (by kernel_rfl) (by kernel_rfl) (finL_nil))))))) (by kernel_rfl)) (ress_nil)) (by kernel_rfl)))))))))
def F28_l15 (n : Nat) (r1 r2 : (Int × Reader)) (r3 : ((List Thing) × Reader)) (r4 : ((List Thing) × Reader)) (r5 : (Int × Reader)) : Nat → Reader → Int → (List Hand) → Option (Note × Reader)
 | 0, _, _, _ => none
 | m + 1, g12, i13, l14 =>
  if decide (i13 < r5.1) then
   if g12.fails then
    (F57 n g12 20).bind fun (r18 : (Int × Reader)) =>
    F28_l28 n r1 r2 r3 r4 l14 r18 (n + 8) r18.2 0 ([] : List Command)
   else
    (F57 n g12 16).bind fun (r16 : (Int × Reader)) =>
    (F57 n r16.2 4).bind fun (r17 : (Int × Reader)) =>
    if ((l14).length + 1) * 16 ≤ maxCells ∧ (l14).length + 1 ≤ maxCells then
     (F28_l15 n r1 r2 r3 r4 r5 m) r17.2 (IntKind.wrap .i64 (i13 + 1)) (l14 ++ [(Hand.mk r16.1 r17.1)])
    else none
  else
   (F57 n g12 20).bind fun (r31 : (Int × Reader)) =>
   F28_l41 n r1 r2 r3 r4 l14 r31 (n + 8) r31.2 0 ([] : List Command)
theorem F28_l15_ok (n : Nat) (r1 r2 : (Int × Reader)) (r3 : ((List Thing) × Reader)) (r4 : ((List Thing) × Reader)) (r5 : (Int × Reader)) : ∀ (m : Nat) (g12 : Reader) (i13 : Int) (l14 : (List Hand)), SimL Tryz.prog D (n + 8) m p28c21 [(0, qp 1000000 0), (2, qp 2 0), (3, qp 3 0), (19, qj r5.1), (20, qj i13)] [(2, some (.cells W15)), (3, some (.cells [lj r1.1, lj r2.1, vw Thing.cod r3.1, .osl 100027 0 0 (l14).length, vw Thing.cod r4.1, lnil])), (100027, some (.arr 40 Hand.cod.sz 0 (l14).length (getOf Hand.cod l14))), (1000000, some (.cells (Reader.cells g12)))] (F28_l15 n r1 r2 r3 r4 r5 m g12 i13 l14) (QB 0 (QT Tryz.prog D (n + 8) p28c54 (QF false pc28_r 1 F28_e))) := by
 intro m_l15
 induction m_l15 with
 | zero => intro g12 i13 l14; exact SimL.zero'  rfl
 | succ m_l15 ih_l15 =>
  intro g12 i13 l14
  refine SimL.succ ?_
  unfold F28_l15
  refine Sim.seq (.rg [(0, qp 1000000 0), (2, qp 2 0), (3, qp 3 0), (19, qj r5.1), (20, qj i13)] [(2, some (.cells W15)), (3, some (.cells [lj r1.1, lj r2.1, vw Thing.cod r3.1, .osl 100027 0 0 (l14).length, vw Thing.cod r4.1, lnil])), (100027, some (.arr 40 Hand.cod.sz 0 (l14).length (getOf Hand.cod l14))), (1000000, some (.cells (Reader.cells g12)))] (.ru 1 [] (.thenN (.seq (.cd _ ?_ ?_)))))
  ·refine Sim.skip (.thenN (.seq (.block (.seq (.su 4 [] (.cd _ ?_ ?_))))))
   ·refine Sim.exit (.thenX (.blockY rfl (.thenX (.loopX (.blockX (.thenN (.seq (.label (.thenN (.seq (.sv 1 [] (.bn ⟨some 38, .call true [[], []] 57 [37, Operand.const (Value.int IntKind.u64 20)], none, []⟩ (fun r18 => [(38, qj r18.1)]) (fun r18 => (W67 r18)) (fun r18 hr => pe (qc (ARGS := [qp 1000000 0, .one (li .u64 20)]) (ks := [1000000]) (os := [(Reader.cells g12)]) (os' := [(Reader.cells r18.2)]) (F57_ok _ _ _ _ hr))) (fun r18 => ?_)))))))))))))
    refine SimI.ru 1 [] (.thenN (.block (.loop (.pr [0, 2, 3, 38, 39] W106 [(true, 3, 5, 100064, 56, 22)] [(0, qp 1000000 0), (2, qp 2 0), (3, qp 3 0), (38, qj r18.1), (39, qj 0)] (W64 r1 r2 r3 l14 r4 r18) ?_))))
    exact F28_l28_ok n r1 r2 r3 r4 l14 r18 (n + 8) r18.2 0 ([] : List Command)
   ·refine Sim.skip (.thenN (.region0 (.rv 3 [] (.bn ⟨some 29, .call true [[], []] 57 [28, Operand.const (Value.int IntKind.u64 16)], none, [(28, .at_ 1000000 0)]⟩ (fun r16 => [(29, qj r16.1)]) (fun r16 => (W67 r16)) (fun r16 hr => pe (qc (ARGS := [qp 1000000 0, .one (li .u64 16)]) (ks := [1000000]) (os := [(Reader.cells g12)]) (os' := [(Reader.cells r16.2)]) (F57_ok _ _ _ _ hr))) (fun r16 => ?_)))))
    refine SimI.rv 1 [] (.bn ⟨some 31, .call true [[], []] 57 [30, Operand.const (Value.int IntKind.u64 4)], none, [(30, .at_ 1000000 0)]⟩ (fun r17 => [(31, qj r17.1)]) (fun r17 => (W67 r17)) (fun r17 hr => pe (qc (ARGS := [qp 1000000 0, .one (li .u64 4)]) (ks := [1000000]) (os := [(Reader.cells r16.2)]) (os' := [(Reader.cells r17.2)]) (F57_ok _ _ _ _ hr))) (fun r17 => ?_))
    refine SimI.rv 2 [] (.gu ⟨some 34, .app 100027 40 2 16 27 33, none, [(27, Hint.obj 100027), (33, .imm)]⟩ [(34, .one (.osl 100027 (0 + 1) 0 ((l14 ++ [(Hand.mk r16.1 r17.1)])).length))] [(100027, some (.arr 40 Hand.cod.sz (0 + 1) ((l14 ++ [(Hand.mk r16.1 r17.1)])).length (getOf Hand.cod (l14 ++ [(Hand.mk r16.1 r17.1)]))))] (fun hc => pe (eff_appO (c := Hand.cod) (g := 0) (l := l14) (a := (Hand.mk r16.1 r17.1)) (by kernel_rfl) (by kernel_rfl) (by kernel_rfl) (by kernel_rfl) hc)) (.ru 2 [(3, some (.cells [lj r1.1, lj r2.1, vw Thing.cod r3.1, .osl 100027 (0 + 1) 0 ((l14 ++ [(Hand.mk r16.1 r17.1)])).length, vw Thing.cod r4.1, lnil]))] (.blockN (.thenN (.region0 (.ru 2 [] (.loopN (.pr [0, 2, 3, 19, 20] [2, 3, 100027, 1000000] [(true, 3, 3, 100027, 40, 2)] [(0, qp 1000000 0), (2, qp 2 0), (3, qp 3 0), (19, qj r5.1), (20, qj (iw .i64 (i13 + 1)))] [(2, some (.cells W15)), (3, some (.cells [lj r1.1, lj r2.1, vw Thing.cod r3.1, .osl 100027 0 0 ((l14 ++ [(Hand.mk r16.1 r17.1)])).length, vw Thing.cod r4.1, lnil])), (100027, some (.arr 40 Hand.cod.sz 0 ((l14 ++ [(Hand.mk r16.1 r17.1)])).length (getOf Hand.cod (l14 ++ [(Hand.mk r16.1 r17.1)])))), (1000000, some (.cells (Reader.cells r17.2)))] ?_))))))))
    exact ih_l15 r17.2 (iw .i64 (i13 + 1)) (l14 ++ [(Hand.mk r16.1 r17.1)])
  ·refine Sim.exit (.thenX (.loopX (.blockX (.thenN (.seq (.label (.thenN (.seq (.sv 1 [] (.bn ⟨some 38, .call true [[], []] 57 [37, Operand.const (Value.int IntKind.u64 20)], none, []⟩ (fun r31 => [(38, qj r31.1)]) (fun r31 => (W67 r31)) (fun r31 hr => pe (qc (ARGS := [qp 1000000 0, .one (li .u64 20)]) (ks := [1000000]) (os := [(Reader.cells g12)]) (os' := [(Reader.cells r31.2)]) (F57_ok _ _ _ _ hr))) (fun r31 => ?_)))))))))))
   refine SimI.ru 1 [] (.thenN (.block (.loop (.pr [0, 2, 3, 38, 39] W106 [(true, 3, 5, 100064, 56, 22)] [(0, qp 1000000 0), (2, qp 2 0), (3, qp 3 0), (38, qj r31.1), (39, qj 0)] (W64 r1 r2 r3 l14 r4 r31) ?_))))
   exact F28_l41_ok n r1 r2 r3 r4 l14 r31 (n + 8) r31.2 0 ([] : List Command)
def F28 (n : Nat) (a0 : Reader) : Option (Note × Reader) :=
 (F57 n a0 4).bind fun (r1 : (Int × Reader)) =>
 (F57 n r1.2 1073741824).bind fun (r2 : (Int × Reader)) =>
 (F58 n r2.2).bind fun (r3 : ((List Thing) × Reader)) =>
 (F58 n r3.2).bind fun (r4 : ((List Thing) × Reader)) =>
 (F57 n r4.2 16).bind fun (r5 : (Int × Reader)) =>
 F28_l15 n r1 r2 r3 r4 r5 (n + 8) r5.2 0 ([] : List Hand)
theorem F28_ok (n : Nat) (a0 : Reader) : ∀ r, F28 n a0 = some r → D 28 [.one (.ptr 1000000 0)] [.cells (Reader.cells a0)] = some (F28_e r) := by
 refine fn_to (D := D) (n := n + 8) (nt := 71) (rs := pc28_r) (c := p28c60) (L := [(0, qp 1000000 0)]) (M := (W57 a0)) (k := 1) rfl rfl rfl rfl rfl rfl rfl ?_
 unfold F28
 refine Sim.su 1 [(2, some (.cells W15))] (.scope (.sv 1 [] (.bn ⟨some 8, .call true [[], []] 57 [7, Operand.const (Value.int IntKind.u64 4)], none, []⟩ (fun r1 => [(8, qj r1.1)]) (fun r1 => (W67 r1)) (fun r1 hr => pe (qc (ARGS := [qp 1000000 0, .one (li .u64 4)]) (ks := [1000000]) (os := [(Reader.cells a0)]) (os' := [(Reader.cells r1.2)]) (F57_ok _ _ _ _ hr))) (fun r1 => ?_))))
 refine SimI.rv 1 [] (.bn ⟨some 10, .call true [[], []] 57 [9, Operand.const (Value.int IntKind.u64 1073741824)], none, []⟩ (fun r2 => [(10, qj r2.1)]) (fun r2 => (W67 r2)) (fun r2 hr => pe (qc (ARGS := [qp 1000000 0, .one (li .u64 1073741824)]) (ks := [1000000]) (os := [(Reader.cells r1.2)]) (os' := [(Reader.cells r2.2)]) (F57_ok _ _ _ _ hr))) (fun r2 => ?_))
 refine SimI.ru 3 [(3, some (.cells [lj r1.1, lj r2.1, lnil, lnil, lnil, lnil])), (3, some (.cells W15))] (.thenN (.sv 1 [] (.bn ⟨some 13, .call true [[]] 58 [12], none, []⟩ (fun r3 => [(13, .one (vw Thing.cod r3.1))]) (fun r3 => [(1000000, some (.cells (Reader.cells r3.2)))]) (fun r3 hr => pe (qc (ARGS := [qp 1000000 0]) (ks := [1000000]) (os := [(Reader.cells r2.2)]) (os' := [(Reader.cells r3.2)]) (F58_ok _ _ _ hr))) (fun r3 => ?_))))
 refine SimI.rv 1 [] (.bn ⟨some 15, .call true [[]] 58 [14], none, []⟩ (fun r4 => [(15, .one (vw Thing.cod r4.1))]) (fun r4 => [(1000000, some (.cells (Reader.cells r4.2)))]) (fun r4 hr => pe (qc (ARGS := [qp 1000000 0]) (ks := [1000000]) (os := [(Reader.cells r3.2)]) (os' := [(Reader.cells r4.2)]) (F58_ok _ _ _ hr))) (fun r4 => ?_))
 refine SimI.ru 4 [(3, some (.cells [lj r1.1, lj r2.1, vw Thing.cod r3.1, lnil, vw Thing.cod r4.1, lnil])), (3, some (.cells [lj r1.1, lj r2.1, vw Thing.cod r3.1, lnil, lnil, lnil]))] (.thenN (.seq (.label (.thenN (.seq (.sv 1 [] (.bn ⟨some 19, .call true [[], []] 57 [18, Operand.const (Value.int IntKind.u64 16)], none, []⟩ (fun r5 => [(19, qj r5.1)]) (fun r5 => (W67 r5)) (fun r5 hr => pe (qc (ARGS := [qp 1000000 0, .one (li .u64 16)]) (ks := [1000000]) (os := [(Reader.cells r4.2)]) (os' := [(Reader.cells r5.2)]) (F57_ok _ _ _ _ hr))) (fun r5 => ?_))))))))
 refine SimI.ru 1 [] (.thenN (.block (.loop (.pr [0, 2, 3, 19, 20] [2, 3, 100027, 1000000] [(true, 3, 3, 100027, 40, 2)] [(0, qp 1000000 0), (2, qp 2 0), (3, qp 3 0), (19, qj r5.1), (20, qj 0)] [(2, some (.cells W15)), (3, some (.cells [lj r1.1, lj r2.1, vw Thing.cod r3.1, .osl 100027 0 0 (([] : List Hand)).length, vw Thing.cod r4.1, lnil])), (100027, some (.arr 40 Hand.cod.sz 0 (([] : List Hand)).length (getOf Hand.cod ([] : List Hand)))), (1000000, some (.cells (Reader.cells r5.2)))] ?_))))
 exact F28_l15_ok n r1 r2 r3 r4 r5 (n + 8) r5.2 0 ([] : List Hand)
def F10_e : (Note × Int × Int) → PV × List Ob := fun r => (.tup [.agg [li .i64 r.1.From, li .i64 r.1.Beat, vw Thing.cod r.1.Moved, vw Hand.cod r.1.Hands, vw Thing.cod r.1.Given, vw Command.cod r.1.Watch], .one (li .i64 r.2.1), .one (li .i64 r.2.2)], [])
def F10 (n : Nat) (a0 : ByteArray) : Option (Note × Int × Int) :=
 (F27 n a0).bind fun (r1 : (ByteArray × Int × Int)) =>
 if r1.2.2 != 0 then
  some ((Note.mk 0 0 [] [] [] []), 0, r1.2.2)
 else
  (F28 n (Reader.mk r1.1 0 false)).bind fun (r2 : (Note × Reader)) =>
  (F6 n r2.1).bind fun (r3 : (ByteArray × Int)) =>
  if r2.2.fails then
   some ((Note.mk 0 0 [] [] [] []), 0, 11)
  else
   if r3.2 != 0 then
    some ((Note.mk 0 0 [] [] [] []), 0, 11)
   else
    if 0 ≤ (r1.2.1 : Int) ∧ (r1.2.1 : Int) ≤ (a0.size : Int) then
     if !(r3.1.toList == (a0.extract 0 r1.2.1.toNat).toList) then
      some ((Note.mk 0 0 [] [] [] []), 0, 11)
     else
      some (r2.1, r1.2.1, 0)
    else none
theorem F10_ok (n : Nat) (a0 : ByteArray) : ∀ r, F10 n a0 = some r → D 10 [.one (ls a0)] [] = some (F10_e r) := by
 refine fn_to (D := D) (n := n + 8) (nt := 50) (rs := pc10_r) (c := p10c29) (L := [(0, qs a0)]) (M := []) (k := 0) rfl rfl rfl rfl rfl rfl rfl ?_
 unfold F10
 refine Sim.su 3 [(2, some (.cells W15))] (.sv 1 [] (.cl 14 true [[]] 27 [13] none (fun r1 => .tup (W76 r1)) [qs a0] (F27_ok _ _) (fun r1 => ?_)))
 refine SimI.ru 7 [] (.thenN (.seq (.su 2 [] (.cd _ ?_ ?_))))
 ·exact Sim.su 5 [(2, some (.cells W15))] (.ret (.thenR .fn))
 ·refine Sim.skip (.thenN (.su 4 [(24, some (.cells [ls r1.1, lj 0, lb false]))] (.sv 1 [] (.bn ⟨some 26, .call true [[]] 28 [25], none, []⟩ (fun r2 => [(26, .agg (W32 r2))]) (fun r2 => [(24, some (.cells (Reader.cells r2.2)))]) (fun r2 hr => pe (qc (ARGS := [qp 24 0]) (ks := [24]) (os := [[ls r1.1, lj 0, lb false]]) (os' := [(Reader.cells r2.2)]) (F28_ok _ _ _ hr))) (fun r2 => ?_)))))
  refine SimI.ru 2 [(9, some (.cells (W32 r2))), (9, some (.cells W15))] (.thenN (.seq (.sv 1 [] (.cl 29 true [[(2, 11), (3, 2), (4, 11), (5, 22)]] 6 [28] none (fun r3 => .tup [qs r3.1, qj r3.2]) [.agg (W32 r2)] (F6_ok _ _) (fun r3 => ?_)))))
  refine SimI.ru 5 [] (.thenN (.sv 5 [] (.sp 36 _ ?_ ?_)))
  ·exact SimI.ru 10 [] (.thenN (.ct (.su 4 [(2, some (.cells W15))] (.ret (.thenR .fn)))))
  ·refine SimI.rv 4 [] (.sp 40 _ ?_ ?_)
   ·exact SimI.ru 6 [] (.thenN (.ct (.su 4 [(2, some (.cells W15))] (.ret (.thenR .fn)))))
   ·refine SimI.rv 3 [] (.gp 44 (.slice 9 false true) [42, 43] (some (40, false)) [] (fun hc => pr_cutH (s := a0) (l := .i64) (b := r1.2.1) Tryz.underlying9 hc) (.ru 2 [] (.thenN (.cd _ ?_ ?_))))
    ·exact Sim.su 4 [(2, some (.cells W15))] (.ret (.thenR .fn))
    ·exact Sim.skip (.thenN (.su 5 [(2, some (.cells (W32 r2)))] (.ret .fn)))
def F29_e : Bool → PV × List Ob := fun r => (.one (lb r), [])
def F29_l4 (n : Nat) (a0 a1 : (List Thing)) : Nat → Int → Option Bool
 | 0, _ => none
 | m + 1, i3 =>
  if decide (i3 < ((a0).length : Int)) then
   (ix a0 i3).bind fun (x5 : Thing) =>
   (ix a1 i3).bind fun (x6 : Thing) =>
   if !(Thing.eqb x5 x6) then
    some false
   else
    (F29_l4 n a0 a1 m) (IntKind.wrap .i64 (i3 + 1))
  else
   some true
theorem F29_l4_ok (n : Nat) (a0 a1 : (List Thing)) : ∀ (m : Nat) (i3 : Int), SimL Tryz.prog D (n + 8) m p29c25 [(0, .one (vw Thing.cod a0)), (1, .one (vw Thing.cod a1)), (5, qj i3)] [] (F29_l4 n a0 a1 m i3) (QB 0 (QT Tryz.prog D (n + 8) p29c31 (QF false pc29_r 0 F29_e))) := by
 intro m_l4
 induction m_l4 with
 | zero => intro i3; exact SimL.zero'  rfl
 | succ m_l4 ih_l4 =>
  intro i3
  refine SimL.succ ?_
  unfold F29_l4
  refine Sim.seq (.seq (.rg [(0, .one (vw Thing.cod a0)), (1, .one (vw Thing.cod a1)), (5, qj i3)] [] (.ru 4 [] (.thenN (.cd _ ?_ ?_)))))
  ·refine Sim.skip (.thenN (.seq (.block (.sv 2 [] (.bn ⟨some 19, .iaddrS 11 17 18, none, [(17, .imm), (18, .imm)]⟩ (fun x5 => [(19, .one (.eptr (Thing.cod.enc x5) 0))]) (fun x5 => []) (fun x5 hr => pe (ei (c := Thing.cod) (k := .i64) hr)) (fun x5 => ?_))))))
   refine SimI.rv 3 [] (.bn ⟨some 23, .iaddrS 11 21 22, none, [(21, .imm), (22, .imm)]⟩ (fun x6 => [(23, .one (.eptr (Thing.cod.enc x6) 0))]) (fun x6 => []) (fun x6 hr => pe (ei (c := Thing.cod) (k := .i64) hr)) (fun x6 => ?_))
   refine SimI.rv 1 [] (.se ⟨some 25, .prim (.bin .neq 47 false false) [20, 24], none, [(20, .imm), (24, .imm)]⟩ [(25, qb (!(Thing.eqb x5 x6)))] [] (pe (ep (Thing_eqn x5 x6 _ _))) (.dn (.thenN (.cd _ ?_ ?_))))
   ·exact Sim.su 1 [] (.ret (.blockR (.thenR (.loopR (.blockR (.thenR .fn))))))
   ·refine Sim.skip (.blockN (.thenN (.region0 (.ru 3 [] (.loopN (.pr [0, 1, 5] [] [] [(0, .one (vw Thing.cod a0)), (1, .one (vw Thing.cod a1)), (5, qj (iw .i64 (i3 + 1)))] [] ?_))))))
    exact ih_l4 (iw .i64 (i3 + 1))
  ·exact Sim.exit (.thenX (.loopX (.blockX (.thenN (.su 1 [] (.ret .fn))))))
def F29 (n : Nat) (a0 a1 : (List Thing)) : Option Bool :=
 if ((a0).length : Int) != ((a1).length : Int) then
  some false
 else
  F29_l4 n a0 a1 (n + 8) 0
theorem F29_ok (n : Nat) (a0 a1 : (List Thing)) : ∀ r, F29 n a0 a1 = some r → D 29 [.one (vw Thing.cod a0), .one (vw Thing.cod a1)] [] = some (F29_e r) := by
 refine fn_to (D := D) (n := n + 8) (nt := 26) (rs := pc29_r) (c := p29c34) (L := [(0, .one (vw Thing.cod a0)), (1, .one (vw Thing.cod a1))]) (M := []) (k := 0) rfl rfl rfl rfl rfl rfl rfl ?_
 unfold F29
 refine Sim.su 1 [] (.seq (.su 5 [] (.cd _ ?_ ?_)))
 ·exact Sim.su 1 [] (.ret (.thenR .fn))
 ·refine Sim.skip (.thenN (.seq (.su 1 [] (.block (.loop (.pr [0, 1, 5] [] [] [(0, .one (vw Thing.cod a0)), (1, .one (vw Thing.cod a1)), (5, qj 0)] [] ?_))))))
  exact F29_l4_ok n a0 a1 (n + 8) 0
def F11_e : Bool → PV × List Ob := fun r => (.one (lb r), [])
def F11_l12 (n : Nat) (a0 a1 : Note) : Nat → Int → Option Bool
 | 0, _ => none
 | m + 1, i11 =>
  if decide (i11 < ((a0.Watch).length : Int)) then
   (ix a0.Watch i11).bind fun (x13 : Command) =>
   (ix a1.Watch i11).bind fun (x14 : Command) =>
   if !(Command.eqb x13 x14) then
    some false
   else
    (F11_l12 n a0 a1 m) (IntKind.wrap .i64 (i11 + 1))
  else
   some true
theorem F11_l12_ok (n : Nat) (a0 a1 : Note) : ∀ (m : Nat) (i11 : Int), SimL Tryz.prog D (n + 8) m p11c45 [(2, qp 2 0), (3, qp 3 0), (6, qj i11)] [(2, some (.cells (W7 a0))), (3, some (.cells (W7 a1)))] (F11_l12 n a0 a1 m i11) (QB 2 (QT Tryz.prog D (n + 8) p11c51 (QF false pc11_r 0 F11_e))) := by
 intro m_l12
 induction m_l12 with
 | zero => intro i11; exact SimL.zero'  rfl
 | succ m_l12 ih_l12 =>
  intro i11
  refine SimL.succ ?_
  unfold F11_l12
  refine Sim.seq (.seq (.rg [(2, qp 2 0), (3, qp 3 0), (6, qj i11)] [(2, some (.cells (w0 a0))), (3, some (.cells (w0 a1)))] (.ru 5 [] (.thenN (.cd _ ?_ ?_)))))
  ·refine Sim.skip (.thenN (.seq (.block (.sv 3 [] (.bn ⟨some 81, .iaddrS 22 79 80, none, [(79, .imm), (80, .imm)]⟩ (fun x13 => [(81, .one (.eptr (Command.cod.enc x13) 0))]) (fun x13 => []) (fun x13 hr => pe (ei (c := Command.cod) (k := .i64) hr)) (fun x13 => ?_))))))
   refine SimI.rv 4 [] (.bn ⟨some 86, .iaddrS 22 84 85, none, [(84, .imm), (85, .imm)]⟩ (fun x14 => [(86, .one (.eptr (Command.cod.enc x14) 0))]) (fun x14 => []) (fun x14 hr => pe (ei (c := Command.cod) (k := .i64) hr)) (fun x14 => ?_))
   refine SimI.rv 1 [] (.se ⟨some 88, .prim (.bin .neq 56 false false) [82, 87], none, [(82, .imm), (87, .imm)]⟩ [(88, qb (!(Command.eqb x13 x14)))] [] (pe (ep (Command_eqn x13 x14 _ _))) (.dn (.thenN (.cd _ ?_ ?_))))
   ·exact Sim.su 1 [] (.ret (.blockR (.thenR (.loopR (.blockR (.thenR .fn))))))
   ·refine Sim.skip (.blockN (.thenN (.region0 (.ru 3 [] (.loopN (.pr [2, 3, 6] [2, 3] [] [(2, qp 2 0), (3, qp 3 0), (6, qj (iw .i64 (i11 + 1)))] [(2, some (.cells (w0 a0))), (3, some (.cells (w0 a1)))] ?_))))))
    exact ih_l12 (iw .i64 (i11 + 1))
  ·exact Sim.exit (.thenX (.loopX (.blockX (.thenN (.su 1 [] (.ret .fn))))))
def F11_l6 (n : Nat) (a0 a1 : Note) : Nat → Int → Option Bool
 | 0, _ => none
 | m + 1, i5 =>
  if decide (i5 < ((a0.Hands).length : Int)) then
   (ix a0.Hands i5).bind fun (x7 : Hand) =>
   (ix a1.Hands i5).bind fun (x8 : Hand) =>
   if !(Hand.eqb x7 x8) then
    some false
   else
    (F11_l6 n a0 a1 m) (IntKind.wrap .i64 (i5 + 1))
  else
   F11_l12 n a0 a1 (n + 8) 0
theorem F11_l6_ok (n : Nat) (a0 a1 : Note) : ∀ (m : Nat) (i5 : Int), SimL Tryz.prog D (n + 8) m p11c25 [(2, qp 2 0), (3, qp 3 0), (5, qj i5)] [(2, some (.cells (W7 a0))), (3, some (.cells (W7 a1)))] (F11_l6 n a0 a1 m i5) (QB 0 (QT Tryz.prog D (n + 8) p11c52 (QF false pc11_r 0 F11_e))) := by
 intro m_l6
 induction m_l6 with
 | zero => intro i5; exact SimL.zero'  rfl
 | succ m_l6 ih_l6 =>
  intro i5
  refine SimL.succ ?_
  unfold F11_l6
  refine Sim.seq (.seq (.rg [(2, qp 2 0), (3, qp 3 0), (5, qj i5)] [(2, some (.cells (w0 a0))), (3, some (.cells (w0 a1)))] (.ru 5 [] (.thenN (.cd _ ?_ ?_)))))
  ·refine Sim.skip (.thenN (.seq (.block (.sv 3 [] (.bn ⟨some 63, .iaddrS 2 61 62, none, [(61, .imm), (62, .imm)]⟩ (fun x7 => [(63, .one (.eptr (Hand.cod.enc x7) 0))]) (fun x7 => []) (fun x7 hr => pe (ei (c := Hand.cod) (k := .i64) hr)) (fun x7 => ?_))))))
   refine SimI.rv 4 [] (.bn ⟨some 68, .iaddrS 2 66 67, none, [(66, .imm), (67, .imm)]⟩ (fun x8 => [(68, .one (.eptr (Hand.cod.enc x8) 0))]) (fun x8 => []) (fun x8 hr => pe (ei (c := Hand.cod) (k := .i64) hr)) (fun x8 => ?_))
   refine SimI.rv 1 [] (.se ⟨some 70, .prim (.bin .neq 40 false false) [64, 69], none, [(64, .imm), (69, .imm)]⟩ [(70, qb (!(Hand.eqb x7 x8)))] [] (pe (ep (Hand_eqn x7 x8 _ _))) (.dn (.thenN (.cd _ ?_ ?_))))
   ·exact Sim.su 1 [] (.ret (.blockR (.thenR (.loopR (.blockR (.thenR .fn))))))
   ·refine Sim.skip (.blockN (.thenN (.region0 (.ru 3 [] (.loopN (.pr [2, 3, 5] [2, 3] [] [(2, qp 2 0), (3, qp 3 0), (5, qj (iw .i64 (i5 + 1)))] [(2, some (.cells (w0 a0))), (3, some (.cells (w0 a1)))] ?_))))))
    exact ih_l6 (iw .i64 (i5 + 1))
  ·refine Sim.exit (.thenX (.loopX (.blockX (.thenN (.seq (.su 1 [] (.block (.loop (.pr [2, 3, 6] [2, 3] [] [(2, qp 2 0), (3, qp 3 0), (6, qj 0)] [(2, some (.cells (w0 a0))), (3, some (.cells (w0 a1)))] ?_)))))))))
   exact F11_l12_ok n a0 a1 (n + 8) 0
def F11 (n : Nat) (a0 a1 : Note) : Option Bool :=
 if a0.From != a1.From then
  some false
 else
  if a0.Beat != a1.Beat then
   some false
  else
   (F29 n a0.Moved a1.Moved).bind fun (r1 : Bool) =>
   if !(r1) then
    some false
   else
    (F29 n a0.Given a1.Given).bind fun (r2 : Bool) =>
    if !(r2) then
     some false
    else
     if ((a0.Hands).length : Int) != ((a1.Hands).length : Int) then
      some false
     else
      if ((a0.Watch).length : Int) != ((a1.Watch).length : Int) then
       some false
      else
       F11_l6 n a0 a1 (n + 8) 0
theorem F11_ok (n : Nat) (a0 a1 : Note) : ∀ r, F11 n a0 a1 = some r → D 11 [.agg [li .i64 a0.From, li .i64 a0.Beat, vw Thing.cod a0.Moved, vw Hand.cod a0.Hands, vw Thing.cod a0.Given, vw Command.cod a0.Watch], .agg [li .i64 a1.From, li .i64 a1.Beat, vw Thing.cod a1.Moved, vw Hand.cod a1.Hands, vw Thing.cod a1.Given, vw Command.cod a1.Watch]] [] = some (F11_e r) := by
 refine fn_to (D := D) (n := n + 8) (nt := 89) (rs := pc11_r) (c := p11c55) (L := [(0, .agg (w0 a0)), (1, .agg (w0 a1))]) (M := []) (k := 0) rfl rfl rfl rfl rfl rfl rfl ?_
 unfold F11
 refine Sim.su 3 [(3, some (.cells (w0 a1))), (2, some (.cells (w0 a0)))] (.seq (.sv 6 [] (.sp 12 _ ?_ ?_)))
 ·exact SimI.ru 40 [] (.thenN (.ct (.su 1 [] (.ret (.thenR .fn)))))
 ·refine SimI.rv 7 [] (.sp 19 _ ?_ ?_)
  ·exact SimI.ru 33 [] (.thenN (.ct (.su 1 [] (.ret (.thenR .fn)))))
  ·refine SimI.rv 4 [] (.cl 24 true [[(0, 11)], [(0, 11)]] 29 [21, 23] (some (19, false)) (fun r1 => qb r1) [.one (vw Thing.cod a0.Moved), .one (vw Thing.cod a1.Moved)] (F29_ok _ _ _) (fun r1 => ?_))
   refine SimI.rv 3 [] (.sp 27 _ ?_ ?_)
   ·exact SimI.ru 25 [] (.thenN (.ct (.su 1 [] (.ret (.thenR .fn)))))
   ·refine SimI.rv 4 [] (.cl 32 true [[(0, 11)], [(0, 11)]] 29 [29, 31] (some (27, false)) (fun r2 => qb r2) [.one (vw Thing.cod a0.Given), .one (vw Thing.cod a1.Given)] (F29_ok _ _ _) (fun r2 => ?_))
    refine SimI.rv 3 [] (.sp 35 _ ?_ ?_)
    ·exact SimI.ru 17 [] (.thenN (.ct (.su 1 [] (.ret (.thenR .fn)))))
    ·refine SimI.rv 9 [] (.sp 44 _ ?_ ?_)
     ·exact SimI.ru 8 [] (.thenN (.ct (.su 1 [] (.ret (.thenR .fn)))))
     ·refine SimI.ru 8 [] (.thenN (.cd _ ?_ ?_))
      ·exact Sim.su 1 [] (.ret (.thenR .fn))
      ·refine Sim.skip (.thenN (.seq (.su 1 [] (.block (.loop (.pr [2, 3, 5] [2, 3] [] [(2, qp 2 0), (3, qp 3 0), (5, qj 0)] [(2, some (.cells (w0 a0))), (3, some (.cells (w0 a1)))] ?_))))))
       exact F11_l6_ok n a0 a1 (n + 8) 0
def F36_e : Bool → PV × List Ob := fun r => (.one (lb r), [])
def F36_l4 (n : Nat) (a0 a1 : (List Thing)) : Nat → Int → Option Bool
 | 0, _ => none
 | m + 1, i3 =>
  if decide (i3 < ((a0).length : Int)) then
   (ix a0 i3).bind fun (x5 : Thing) =>
   (ix a1 i3).bind fun (x6 : Thing) =>
   if !(Thing.eqb x5 x6) then
    some false
   else
    (F36_l4 n a0 a1 m) (IntKind.wrap .i64 (i3 + 1))
  else
   some true
theorem F36_l4_ok (n : Nat) (a0 a1 : (List Thing)) : ∀ (m : Nat) (i3 : Int), SimL Tryz.prog D (n + 8) m p36c27 [(0, .one (vw Thing.cod a0)), (1, .one (vw Thing.cod a1)), (12, qj ((a0).length : Int)), (13, qj i3)] [] (F36_l4 n a0 a1 m i3) (QB 0 (QT Tryz.prog D (n + 8) p36c33 (QF false pc36_r 0 F36_e))) := by
 intro m_l4
 induction m_l4 with
 | zero => intro i3; exact SimL.zero'  rfl
 | succ m_l4 ih_l4 =>
  intro i3
  refine SimL.succ ?_
  unfold F36_l4
  refine Sim.seq (.rg [(0, .one (vw Thing.cod a0)), (1, .one (vw Thing.cod a1)), (12, qj ((a0).length : Int)), (13, qj i3)] [] (.ru 1 [] (.thenN (.seq (.cd _ ?_ ?_)))))
  ·refine Sim.skip (.thenN (.seq (.block (.su 2 [] (.sv 2 [] (.bn ⟨some 18, .iaddrS 11 16 17, none, [(16, .imm), (17, .imm)]⟩ (fun x5 => [(18, .one (.eptr (Thing.cod.enc x5) 0))]) (fun x5 => []) (fun x5 hr => pe (ei (c := Thing.cod) (k := .i64) hr)) (fun x5 => ?_)))))))
   refine SimI.rv 3 [] (.bn ⟨some 22, .iaddrS 11 20 21, none, [(20, .imm), (21, .imm)]⟩ (fun x6 => [(22, .one (.eptr (Thing.cod.enc x6) 0))]) (fun x6 => []) (fun x6 hr => pe (ei (c := Thing.cod) (k := .i64) hr)) (fun x6 => ?_))
   refine SimI.rv 1 [] (.se ⟨some 24, .prim (.bin .neq 47 false false) [19, 23], none, [(19, .imm), (23, .imm)]⟩ [(24, qb (!(Thing.eqb x5 x6)))] [] (pe (ep (Thing_eqn x5 x6 _ _))) (.dn (.thenN (.cd _ ?_ ?_))))
   ·exact Sim.su 1 [] (.ret (.blockR (.thenR (.loopR (.blockR (.thenR .fn))))))
   ·refine Sim.skip (.blockN (.thenN (.region0 (.ru 2 [] (.loopN (.pr [0, 1, 12, 13] [] [] [(0, .one (vw Thing.cod a0)), (1, .one (vw Thing.cod a1)), (12, qj ((a0).length : Int)), (13, qj (iw .i64 (i3 + 1)))] [] ?_))))))
    exact ih_l4 (iw .i64 (i3 + 1))
  ·exact Sim.exit (.thenX (.loopX (.blockX (.thenN (.su 1 [] (.ret .fn))))))
def F36 (n : Nat) (a0 a1 : (List Thing)) : Option Bool :=
 if ((a0).length : Int) != ((a1).length : Int) then
  some false
 else
  F36_l4 n a0 a1 (n + 8) 0
theorem F36_ok (n : Nat) (a0 a1 : (List Thing)) : ∀ r, F36 n a0 a1 = some r → D 36 [.one (vw Thing.cod a0), .one (vw Thing.cod a1)] [] = some (F36_e r) := by
 refine fn_to (D := D) (n := n + 8) (nt := 26) (rs := pc36_r) (c := p36c36) (L := [(0, .one (vw Thing.cod a0)), (1, .one (vw Thing.cod a1))]) (M := []) (k := 0) rfl rfl rfl rfl rfl rfl rfl ?_
 unfold F36
 refine Sim.su 1 [] (.seq (.su 5 [] (.cd _ ?_ ?_)))
 ·exact Sim.su 1 [] (.ret (.thenR .fn))
 ·refine Sim.skip (.thenN (.seq (.su 3 [] (.block (.loop (.pr [0, 1, 12, 13] [] [] [(0, .one (vw Thing.cod a0)), (1, .one (vw Thing.cod a1)), (12, qj ((a0).length : Int)), (13, qj 0)] [] ?_))))))
  exact F36_l4_ok n a0 a1 (n + 8) 0
theorem F4_ok (n : Nat) : ∀ r, (some true : Option Bool) = some r → D 4 [] [] = some (.one (lb r), []) := by
 rintro _ ⟨⟩
 exact all_of (N := 60) (by kernel_rfl)
def F14_e : Bool → PV × List Ob := fun r => (.one (lb r), [])
def F14 (n : Nat) (a0 : Command) : Option Bool :=
 if decide ((40 : Int) < (a0.F.a0.Text.size : Int)) then
  some false
 else
  if decide ((40 : Int) < (a0.F.a1.Text.size : Int)) then
   some false
  else
   if decide ((40 : Int) < (a0.F.a2.Text.size : Int)) then
    some false
   else
    if decide ((40 : Int) < (a0.F.a3.Text.size : Int)) then
     some false
    else
     some (decide ((a0.Value.Text.size : Int) ≤ 40))
theorem F14_ok (n : Nat) (a0 : Command) : ∀ r, F14 n a0 = some r → D 14 [.agg (Command.cells a0)] [] = some (F14_e r) := by
 refine fn_to (D := D) (n := n + 8) (nt := 20) (rs := pc14_r) (c := p14c26) (L := (W79 a0)) (M := []) (k := 0) rfl rfl rfl rfl rfl rfl rfl ?_
 unfold F14
 refine Sim.su 2 (W2 a0) (.seq (.su 1 [] (.block (.loop (.succ (.seq (.seq (.rg [(1, qp 1 0), (3, qj 0)] (W2 a0) (.ru 2 [] (.thenN (.ct (.skip (.thenN (.seq (.block (.su 7 [] (.cd _ ?_ ?_)))))))))))))))))
 ·exact Sim.su 1 [] (.ret (.blockR (.thenR (.loopR (.blockR (.thenR .fn))))))
 ·refine Sim.skip (.blockN (.thenN (.region0 (.ru 3 [] (.loopN (.succ (.seq (.seq (.rg [(1, qp 1 0), (3, qj 1)] (W2 a0) (.ru 2 [] (.thenN (.ct (.skip (.thenN (.seq (.block (.su 7 [] (.cd _ ?_ ?_))))))))))))))))))
  ·exact Sim.su 1 [] (.ret (.blockR (.thenR (.loopR (.blockR (.thenR .fn))))))
  ·refine Sim.skip (.blockN (.thenN (.region0 (.ru 3 [] (.loopN (.succ (.seq (.seq (.rg [(1, qp 1 0), (3, qj 2)] (W2 a0) (.ru 2 [] (.thenN (.ct (.skip (.thenN (.seq (.block (.su 7 [] (.cd _ ?_ ?_))))))))))))))))))
   ·exact Sim.su 1 [] (.ret (.blockR (.thenR (.loopR (.blockR (.thenR .fn))))))
   ·refine Sim.skip (.blockN (.thenN (.region0 (.ru 3 [] (.loopN (.succ (.seq (.seq (.rg [(1, qp 1 0), (3, qj 3)] (W2 a0) (.ru 2 [] (.thenN (.ct (.skip (.thenN (.seq (.block (.su 7 [] (.cd _ ?_ ?_))))))))))))))))))
    ·exact Sim.su 1 [] (.ret (.blockR (.thenR (.loopR (.blockR (.thenR .fn))))))
    ·exact Sim.skip (.blockN (.thenN (.region0 (.ru 3 [] (.loopN (.succ (.seq (.seq (.rg [(1, qp 1 0), (3, qj 4)] (W2 a0) (.ru 2 [] (.thenN (.cf (.exit (.thenX (.loopX (.blockX (.thenN (.su 6 [] (.ret .fn)))))))))))))))))))
def F70_e : Bool → PV × List Ob := fun r => (.one (lb r), [])
def F70 (n : Nat) (a0 : Field) : Option Bool :=
 some (decide ((a0.Text.size : Int) ≤ 40))
theorem F70_ok (n : Nat) (a0 : Field) : ∀ r, F70 n a0 = some r → D 70 [.agg [li .i64 a0.N, ls a0.Text]] [] = some (F70_e r) := by
 refine fn_to (D := D) (n := n + 8) (nt := 7) (rs := pc70_r) (c := p70c5) (L := [(0, .agg [lj a0.N, ls a0.Text])]) (M := []) (k := 0) rfl rfl rfl rfl rfl rfl rfl ?_
 unfold F70
 exact Sim.su 2 (W128 a0) (.su 5 [] (.ret .fn))
def F39_e : Bool → PV × List Ob := fun r => (.one (lb r), [])
def F39 (n : Nat) (a0 : Thing) : Option Bool :=
 (F70 n a0.F.a0).bind fun (r1 : Bool) =>
 if !(r1) then
  some false
 else
  (F70 n a0.F.a1).bind fun (r2 : Bool) =>
  if !(r2) then
   some false
  else
   (F70 n a0.F.a2).bind fun (r3 : Bool) =>
   if !(r3) then
    some false
   else
    (F70 n a0.F.a3).bind fun (r4 : Bool) =>
    if !(r4) then
     some false
    else
     some true
theorem F39_ok (n : Nat) (a0 : Thing) : ∀ r, F39 n a0 = some r → D 39 [.agg (Thing.cells a0)] [] = some (F39_e r) := by
 refine fn_to (D := D) (n := n + 8) (nt := 14) (rs := pc39_r) (c := p39c26) (L := [(0, .agg (Thing.cells a0))]) (M := []) (k := 0) rfl rfl rfl rfl rfl rfl rfl ?_
 unfold F39
 refine Sim.su 2 (W11 a0) (.seq (.su 1 [] (.block (.loop (.succ (.seq (.seq (.rg [(1, qp 1 0), (3, qj 0)] (W11 a0) (.ru 2 [] (.thenN (.ct (.skip (.thenN (.seq (.block (.sv 4 [] (.cl 12 true [[]] 70 [11] none (fun r1 => qb r1) [.agg [lj a0.F.a0.N, ls a0.F.a0.Text]] (F70_ok _ _) (fun r1 => ?_))))))))))))))))))
 refine SimI.ru 1 [] (.thenN (.cd _ ?_ ?_))
 ·exact Sim.su 1 [] (.ret (.blockR (.thenR (.loopR (.blockR (.thenR .fn))))))
 ·refine Sim.skip (.blockN (.thenN (.region0 (.ru 3 [] (.loopN (.succ (.seq (.seq (.rg [(1, qp 1 0), (3, qj 1)] (W11 a0) (.ru 2 [] (.thenN (.ct (.skip (.thenN (.seq (.block (.sv 4 [] (.cl 12 true [[]] 70 [11] none (fun r2 => qb r2) [.agg [lj a0.F.a1.N, ls a0.F.a1.Text]] (F70_ok _ _) (fun r2 => ?_)))))))))))))))))))
  refine SimI.ru 1 [] (.thenN (.cd _ ?_ ?_))
  ·exact Sim.su 1 [] (.ret (.blockR (.thenR (.loopR (.blockR (.thenR .fn))))))
  ·refine Sim.skip (.blockN (.thenN (.region0 (.ru 3 [] (.loopN (.succ (.seq (.seq (.rg [(1, qp 1 0), (3, qj 2)] (W11 a0) (.ru 2 [] (.thenN (.ct (.skip (.thenN (.seq (.block (.sv 4 [] (.cl 12 true [[]] 70 [11] none (fun r3 => qb r3) [.agg [lj a0.F.a2.N, ls a0.F.a2.Text]] (F70_ok _ _) (fun r3 => ?_)))))))))))))))))))
   refine SimI.ru 1 [] (.thenN (.cd _ ?_ ?_))
   ·exact Sim.su 1 [] (.ret (.blockR (.thenR (.loopR (.blockR (.thenR .fn))))))
   ·refine Sim.skip (.blockN (.thenN (.region0 (.ru 3 [] (.loopN (.succ (.seq (.seq (.rg [(1, qp 1 0), (3, qj 3)] (W11 a0) (.ru 2 [] (.thenN (.ct (.skip (.thenN (.seq (.block (.sv 4 [] (.cl 12 true [[]] 70 [11] none (fun r4 => qb r4) [.agg [lj a0.F.a3.N, ls a0.F.a3.Text]] (F70_ok _ _) (fun r4 => ?_)))))))))))))))))))
    refine SimI.ru 1 [] (.thenN (.cd _ ?_ ?_))
    ·exact Sim.su 1 [] (.ret (.blockR (.thenR (.loopR (.blockR (.thenR .fn))))))
    ·exact Sim.skip (.blockN (.thenN (.region0 (.ru 3 [] (.loopN (.succ (.seq (.seq (.rg [(1, qp 1 0), (3, qj 4)] (W11 a0) (.ru 2 [] (.thenN (.cf (.exit (.thenX (.loopX (.blockX (.thenN (.su 1 [] (.ret .fn)))))))))))))))))))
def F15_e : Bool → PV × List Ob := fun r => (.one (lb r), [])
def F15_l4 (n : Nat) (a0 : (List Thing)) : Nat → Int → Option Bool
 | 0, _ => none
 | m + 1, i3 =>
  if decide (i3 < ((a0).length : Int)) then
   (ix a0 i3).bind fun (x5 : Thing) =>
   (F39 n x5).bind fun (r6 : Bool) =>
   if !(r6) then
    some false
   else
    (F15_l4 n a0 m) (IntKind.wrap .i64 (i3 + 1))
  else
   some (decide (((a0).length : Int) ≤ 30))
theorem F15_l4_ok (n : Nat) (a0 : (List Thing)) : ∀ (m : Nat) (i3 : Int), SimL Tryz.prog D (n + 8) m p15c18 [(0, .one (vw Thing.cod a0)), (3, qj i3)] [] (F15_l4 n a0 m i3) (QB 0 (QT Tryz.prog D (n + 8) p15c24 (QF false pc15_r 0 F15_e))) := by
 intro m_l4
 induction m_l4 with
 | zero => intro i3; exact SimL.zero'  rfl
 | succ m_l4 ih_l4 =>
  intro i3
  refine SimL.succ ?_
  unfold F15_l4
  refine Sim.seq (.seq (.rg [(0, .one (vw Thing.cod a0)), (3, qj i3)] [] (.ru 4 [] (.thenN (.cd _ ?_ ?_)))))
  ·refine Sim.skip (.thenN (.seq (.block (.sv 2 [] (.bn ⟨some 12, .iaddrS 11 10 11, none, []⟩ (fun x5 => [(12, .one (.eptr (Thing.cod.enc x5) 0))]) (fun x5 => []) (fun x5 hr => pe (ei (c := Thing.cod) (k := .i64) hr)) (fun x5 => ?_))))))
   refine SimI.rv 1 [] (.cl 14 true [[]] 39 [13] none (fun r6 => qb r6) [.agg (Thing.cells x5)] (F39_ok _ _) (fun r6 => ?_))
   refine SimI.ru 1 [] (.thenN (.cd _ ?_ ?_))
   ·exact Sim.su 1 [] (.ret (.blockR (.thenR (.loopR (.blockR (.thenR .fn))))))
   ·refine Sim.skip (.blockN (.thenN (.region0 (.ru 3 [] (.loopN (.pr [0, 3] [] [] [(0, .one (vw Thing.cod a0)), (3, qj (iw .i64 (i3 + 1)))] [] ?_))))))
    exact ih_l4 (iw .i64 (i3 + 1))
  ·exact Sim.exit (.thenX (.loopX (.blockX (.thenN (.su 4 [] (.ret .fn))))))
def F15 (n : Nat) (a0 : (List Thing)) : Option Bool :=
 F15_l4 n a0 (n + 8) 0
theorem F15_ok (n : Nat) (a0 : (List Thing)) : ∀ r, F15 n a0 = some r → D 15 [.one (vw Thing.cod a0)] [] = some (F15_e r) := by
 refine fn_to (D := D) (n := n + 8) (nt := 19) (rs := pc15_r) (c := p15c26) (L := [(0, .one (vw Thing.cod a0))]) (M := []) (k := 0) rfl rfl rfl rfl rfl rfl rfl ?_
 unfold F15
 refine Sim.su 1 [] (.seq (.su 1 [] (.block (.loop (.pr [0, 3] [] [] [(0, .one (vw Thing.cod a0)), (3, qj 0)] [] ?_)))))
 exact F15_l4_ok n a0 (n + 8) 0
def F5_e : Bool → PV × List Ob := fun r => (.one (lb r), [])
def F5_l4 (n : Nat) (a0 : Note) : Nat → Int → Option Bool
 | 0, _ => none
 | m + 1, i3 =>
  if decide (i3 < ((a0.Watch).length : Int)) then
   (ix a0.Watch i3).bind fun (x5 : Command) =>
   (F14 n x5).bind fun (r6 : Bool) =>
   if !(r6) then
    some false
   else
    (F5_l4 n a0 m) (IntKind.wrap .i64 (i3 + 1))
  else
   (F15 n a0.Moved).bind fun (r7 : Bool) =>
   if r7 then
    (F15 n a0.Given).bind fun (r8 : Bool) =>
    if r8 then
     if decide (((a0.Hands).length : Int) ≤ 20) then
      some (decide (((a0.Watch).length : Int) ≤ 24))
     else
      some false
    else
     some false
   else
    some false
theorem F5_l4_ok (n : Nat) (a0 : Note) : ∀ (m : Nat) (i3 : Int), SimL Tryz.prog D (n + 8) m p5c18 [(1, qp 1 0), (3, qj i3)] [(1, some (.cells (W7 a0)))] (F5_l4 n a0 m i3) (QB 0 (QT Tryz.prog D (n + 8) p5c24 (QF false pc5_r 0 F5_e))) := by
 intro m_l4
 induction m_l4 with
 | zero => intro i3; exact SimL.zero'  rfl
 | succ m_l4 ih_l4 =>
  intro i3
  refine SimL.succ ?_
  unfold F5_l4
  refine Sim.seq (.seq (.rg [(1, qp 1 0), (3, qj i3)] [(1, some (.cells (w0 a0)))] (.ru 5 [] (.thenN (.cd _ ?_ ?_)))))
  ·refine Sim.skip (.thenN (.seq (.block (.sv 3 [] (.bn ⟨some 14, .iaddrS 22 12 13, none, []⟩ (fun x5 => [(14, .one (.eptr (Command.cod.enc x5) 0))]) (fun x5 => []) (fun x5 hr => pe (ei (c := Command.cod) (k := .i64) hr)) (fun x5 => ?_))))))
   refine SimI.rv 1 [] (.cl 16 true [[]] 14 [15] none (fun r6 => qb r6) [.agg (Command.cells x5)] (F14_ok _ _) (fun r6 => ?_))
   refine SimI.ru 1 [] (.thenN (.cd _ ?_ ?_))
   ·exact Sim.su 1 [] (.ret (.blockR (.thenR (.loopR (.blockR (.thenR .fn))))))
   ·refine Sim.skip (.blockN (.thenN (.region0 (.ru 3 [] (.loopN (.pr [1, 3] [1] [] [(1, qp 1 0), (3, qj (iw .i64 (i3 + 1)))] [(1, some (.cells (w0 a0)))] ?_))))))
    exact ih_l4 (iw .i64 (i3 + 1))
  ·refine Sim.exit (.thenX (.loopX (.blockX (.thenN (.sv 2 [] (.cl 20 true [[(0, 11)]] 15 [19] none (fun r7 => qb r7) [.one (vw Thing.cod a0.Moved)] (F15_ok _ _) (fun r7 => ?_)))))))
   refine SimI.rv 1 [] (.sp 21 _ ?_ ?_)
   ·refine SimI.rv 2 [] (.cl 24 true [[(0, 11)]] 15 [23] (some (21, true)) (fun r8 => qb r8) [.one (vw Thing.cod a0.Given)] (F15_ok _ _) (fun r8 => ?_))
    refine SimI.rv 2 [] (.sp 26 _ ?_ ?_)
    ·refine SimI.rv 6 [] (.sp 32 _ ?_ ?_)
     ·exact SimI.ru 6 [] (.thenN (.ret .fn))
     ·exact SimI.ru 6 [] (.thenN (.ret .fn))
    ·exact SimI.ru 12 [] (.thenN (.ret .fn))
   ·exact SimI.ru 17 [] (.thenN (.ret .fn))
def F5 (n : Nat) (a0 : Note) : Option Bool :=
 F5_l4 n a0 (n + 8) 0
theorem F5_ok (n : Nat) (a0 : Note) : ∀ r, F5 n a0 = some r → D 5 [.agg [li .i64 a0.From, li .i64 a0.Beat, vw Thing.cod a0.Moved, vw Hand.cod a0.Hands, vw Thing.cod a0.Given, vw Command.cod a0.Watch]] [] = some (F5_e r) := by
 refine fn_to (D := D) (n := n + 8) (nt := 38) (rs := pc5_r) (c := p5c26) (L := [(0, .agg (w0 a0))]) (M := []) (k := 0) rfl rfl rfl rfl rfl rfl rfl ?_
 unfold F5
 refine Sim.su 2 [(1, some (.cells (w0 a0)))] (.seq (.su 1 [] (.block (.loop (.pr [1, 3] [1] [] [(1, qp 1 0), (3, qj 0)] [(1, some (.cells (w0 a0)))] ?_)))))
 exact F5_l4_ok n a0 (n + 8) 0
def F25_e : Int → PV × List Ob := fun r => (.one (li .u32 r), [])
def F25_l15 (n : Nat) (i6 : Int) (rec_l7 : Int → Int → Option Int) : Nat → Int → Int → Option Int
 | 0, _, _ => none
 | m + 1, i13, i14 =>
  if decide (i14 < 8) then
   if (bitsI .and .u32 i13 1) == 1 then
    (F25_l15 n i6 rec_l7 m) (bitsI .xor .u32 (shrI .u32 i13 1) 3988292384) (IntKind.wrap .i64 (i14 + 1))
   else
    (F25_l15 n i6 rec_l7 m) (shrI .u32 i13 1) (IntKind.wrap .i64 (i14 + 1))
  else
   rec_l7 i13 (IntKind.wrap .i64 (i6 + 1))
theorem F25_l15_ok (n : Nat) (a0 : ByteArray) (i6 : Int) (rec_l7 : Int → Int → Option Int) (m_l7 : Nat) (ih_l7 : ∀ (i5 i6 : Int), SimL Tryz.prog D (n + 8) m_l7 p25c36 [(0, qs a0), (3, .one (li .u32 i5)), (4, qj i6)] [] (rec_l7 i5 i6) (QB 0 (QT Tryz.prog D (n + 8) p25c42 (QF false pc25_r 0 F25_e)))) : ∀ (m : Nat) (i13 i14 : Int), SimL Tryz.prog D (n + 8) m p25c28 [(0, qs a0), (3, .one (li .u32 i13)), (4, qj i6), (5, qj i14)] [] (F25_l15 n i6 rec_l7 m i13 i14) (QB 2 (QB 1 (QT Tryz.prog D (n + 8) p25c34 (QL Tryz.prog D (n + 8) m_l7 p25c36 (QB 0 (QT Tryz.prog D (n + 8) p25c42 (QF false pc25_r 0 F25_e))))))) := by
 intro m_l15
 induction m_l15 with
 | zero => intro i13 i14; exact SimL.zero'  rfl
 | succ m_l15 ih_l15 =>
  intro i13 i14
  refine SimL.succ ?_
  unfold F25_l15
  refine Sim.seq (.seq (.rg [(0, qs a0), (3, .one (li .u32 i13)), (4, qj i6), (5, qj i14)] [] (.ru 2 [] (.thenN (.cd _ ?_ ?_)))))
  ·refine Sim.skip (.thenN (.seq (.block (.su 3 [] (.su 3 [] (.su 2 [] (.cd _ ?_ ?_)))))))
   ·refine Sim.region0 (.ru 3 [] (.blockN (.thenN (.region0 (.ru 3 [] (.loopN (.pr [0, 3, 4, 5] [] [] [(0, qs a0), (3, .one (li .u32 (bitsI .xor .u32 (shrI .u32 i13 1) 3988292384))), (4, qj i6), (5, qj (iw .i64 (i14 + 1)))] [] ?_)))))))
    exact ih_l15 (bitsI .xor .u32 (shrI .u32 i13 1) 3988292384) (iw .i64 (i14 + 1))
   ·refine Sim.skip (.blockN (.thenN (.region0 (.ru 3 [] (.loopN (.pr [0, 3, 4, 5] [] [] [(0, qs a0), (3, .one (li .u32 (shrI .u32 i13 1))), (4, qj i6), (5, qj (iw .i64 (i14 + 1)))] [] ?_))))))
    exact ih_l15 (shrI .u32 i13 1) (iw .i64 (i14 + 1))
  ·refine Sim.exit (.thenX (.loopX (.blockX (.blockN (.thenN (.region0 (.ru 3 [] (.loopN (.pr [0, 3, 4] [] [] [(0, qs a0), (3, .one (li .u32 i13)), (4, qj (iw .i64 (i6 + 1)))] [] ?_)))))))))
   exact ih_l7 i13 (iw .i64 (i6 + 1))
def F25_l7 (n : Nat) (a0 : ByteArray) : Nat → Int → Int → Option Int
 | 0, _, _ => none
 | m + 1, i5, i6 =>
  if decide (i6 < (a0.size : Int)) then
   (ix (bytesL a0) i6).bind fun (x8 : Int) =>
   F25_l15 n i6 (F25_l7 n a0 m) (n + 8) (bitsI .xor .u32 i5 (IntKind.wrap .u32 x8)) 0
  else
   some (bitsI .xor .u32 i5 4294967295)
theorem F25_l7_ok (n : Nat) (a0 : ByteArray) : ∀ (m : Nat) (i5 i6 : Int), SimL Tryz.prog D (n + 8) m p25c36 [(0, qs a0), (3, .one (li .u32 i5)), (4, qj i6)] [] (F25_l7 n a0 m i5 i6) (QB 0 (QT Tryz.prog D (n + 8) p25c42 (QF false pc25_r 0 F25_e))) := by
 intro m_l7
 induction m_l7 with
 | zero => intro i5 i6; exact SimL.zero'  rfl
 | succ m_l7 ih_l7 =>
  intro i5 i6
  refine SimL.succ ?_
  unfold F25_l7
  refine Sim.seq (.seq (.rg [(0, qs a0), (3, .one (li .u32 i5)), (4, qj i6)] [] (.ru 4 [] (.thenN (.cd _ ?_ ?_)))))
  ·refine Sim.skip (.thenN (.seq (.block (.sv 3 [] (.bn ⟨some 16, .prim (.index 9) [14, 15], none, []⟩ (fun x8 => [(16, .one (li .u8 x8))]) (fun x8 => []) (fun x8 hr => pe (ep (pr_index (s := a0) (k := .i64) (i := i6) (b := x8) Tryz.underlying9 hr))) (fun x8 => ?_))))))
   refine SimI.ru 3 [] (.thenN (.su 1 [] (.block (.loop (.pr [0, 3, 4, 5] [] [] [(0, qs a0), (3, .one (li .u32 (bitsI .xor .u32 i5 (iw .u32 x8)))), (4, qj i6), (5, qj 0)] [] ?_)))))
   exact F25_l15_ok n a0 i6 (F25_l7 n a0 m_l7) m_l7 ih_l7 (n + 8) (bitsI .xor .u32 i5 (iw .u32 x8)) 0
  ·exact Sim.exit (.thenX (.loopX (.blockX (.thenN (.su 3 [] (.ret .fn))))))
def F25 (n : Nat) (a0 : ByteArray) : Option Int :=
 F25_l7 n a0 (n + 8) 4294967295 0
theorem F25_ok (n : Nat) (a0 : ByteArray) : ∀ r, F25 n a0 = some r → D 25 [.one (ls a0)] [] = some (F25_e r) := by
 refine fn_to (D := D) (n := n + 8) (nt := 33) (rs := pc25_r) (c := p25c45) (L := [(0, qs a0)]) (M := []) (k := 0) rfl rfl rfl rfl rfl rfl rfl ?_
 unfold F25
 refine Sim.su 1 [] (.su 1 [] (.seq (.su 1 [] (.block (.loop (.pr [0, 3, 4] [] [] [(0, qs a0), (3, .one (li .u32 4294967295)), (4, qj 0)] [] ?_))))))
 exact F25_l7_ok n a0 (n + 8) 4294967295 0
def F55_e : ByteArray → PV × List Ob := fun r => (.one (ls r), [])
def F55_l7 (n : Nat) : Nat → Int → ByteArray → Option ByteArray
 | 0, _, _ => none
 | m + 1, i5, s6 =>
  if decide (i5 < 128) then
   if s6.size + (mkStr [IntKind.wrap .u8 i5]).size ≤ 9223372036854775807 then
    some (s6 ++ (mkStr [IntKind.wrap .u8 i5]))
   else none
  else
   if s6.size + (mkStr [bitsI .or .u8 (IntKind.wrap .u8 (bitsI .and .u64 i5 127)) 128]).size ≤ 9223372036854775807 then
    (F55_l7 n m) (shrI .u64 i5 7) (s6 ++ (mkStr [bitsI .or .u8 (IntKind.wrap .u8 (bitsI .and .u64 i5 127)) 128]))
   else none
theorem F55_l7_ok (n : Nat) : ∀ (m : Nat) (i5 : Int) (s6 : ByteArray), SimL Tryz.prog D (n + 8) m p55c14 [(0, .one (li .u64 i5)), (3, qs s6)] [] (F55_l7 n m i5 s6) (QB 0 (QF false pc55_r 0 F55_e)) := by
 intro m_l7
 induction m_l7 with
 | zero => intro i5 s6; exact SimL.zero'  rfl
 | succ m_l7 ih_l7 =>
  intro i5 s6
  refine SimL.succ ?_
  unfold F55_l7
  refine Sim.block (.seq (.seq (.rg [(0, .one (li .u64 i5)), (3, qs s6)] [] (.ru 2 [] (.thenN (.cd _ ?_ ?_))))))
  ·exact Sim.sv 4 [] (.se ⟨some 10, .b2s 9, none, []⟩ [(10, qs (mkStr [IntKind.wrap .u8 i5]))] [] (pe (eff_b2s (l := [IntKind.wrap .u8 i5]) (by kernel_rfl))) (.gp 11 (.bin .add 9 false false) [6, 10] none [] (fun hc => pr_addS _ _ _ s6 (mkStr [IntKind.wrap .u8 i5]) hc) (.ru 1 [] (.thenN (.ret (.thenR (.blockR (.loopR (.blockR .fn)))))))))
  ·refine Sim.skip (.thenN (.sv 6 [] (.se ⟨some 18, .b2s 17, none, []⟩ [(18, qs (mkStr [bitsI .or .u8 (iw .u8 (bitsI .and .u64 i5 127)) 128]))] [] (pe (eff_b2s (l := [bitsI .or .u8 (iw .u8 (bitsI .and .u64 i5 127)) 128]) (by kernel_rfl))) (.gp 19 (.bin .add 9 false false) [12, 18] none [] (fun hc => pr_addS _ _ _ s6 (mkStr [bitsI .or .u8 (iw .u8 (bitsI .and .u64 i5 127)) 128]) hc) (.ru 1 [] (.thenN (.region0 (.ru 3 [] (.blockN (.loopN (.pr [0, 3] [] [] [(0, .one (li .u64 (shrI .u64 i5 7))), (3, qs (s6 ++ (mkStr [bitsI .or .u8 (iw .u8 (bitsI .and .u64 i5 127)) 128])))] [] ?_)))))))))))
   exact ih_l7 (shrI .u64 i5 7) (s6 ++ (mkStr [bitsI .or .u8 (iw .u8 (bitsI .and .u64 i5 127)) 128]))
def F55 (n : Nat) (a0 : Int) : Option ByteArray :=
 F55_l7 n (n + 8) a0 ByteArray.empty
theorem F55_ok (n : Nat) (a0 : Int) : ∀ r, F55 n a0 = some r → D 55 [.one (li .u64 a0)] [] = some (F55_e r) := by
 refine fn_to (D := D) (n := n + 8) (nt := 22) (rs := pc55_r) (c := p55c18) (L := [(0, .one (li .u64 a0))]) (M := []) (k := 0) rfl rfl rfl rfl rfl rfl rfl ?_
 unfold F55
 refine Sim.su 1 [] (.su 1 [] (.block (.loop (.pr [0, 3] [] [] [(0, .one (li .u64 a0)), (3, qs be)] [] ?_))))
 exact F55_l7_ok n (n + 8) a0 be
def F26_e : ByteArray → PV × List Ob := fun r => (.one (ls r), [])
def F26 (n : Nat) (a0 : ByteArray) : Option ByteArray :=
 (F55 n (IntKind.wrap .u64 (a0.size : Int))).bind fun (r1 : ByteArray) =>
 if r1.size + a0.size ≤ 9223372036854775807 then
  some (r1 ++ a0)
 else none
theorem F26_ok (n : Nat) (a0 : ByteArray) : ∀ r, F26 n a0 = some r → D 26 [.one (ls a0)] [] = some (F26_e r) := by
 refine fn_to (D := D) (n := n + 8) (nt := 9) (rs := pc26_r) (c := p26c5) (L := [(0, qs a0)]) (M := []) (k := 0) rfl rfl rfl rfl rfl rfl rfl ?_
 unfold F26
 refine Sim.su 1 [] (.sv 3 [] (.cl 6 true [[]] 55 [5] none (fun r1 => qs r1) [.one (li .u64 (iw .u64 (a0.size : Int)))] (F55_ok _ _) (fun r1 => ?_)))
 exact SimI.rv 1 [] (.gp 8 (.bin .add 9 false false) [6, 7] none [] (fun hc => pr_addS _ _ _ r1 a0 hc) (.ru 1 [] (.thenN (.ret .fn))))
def F9_e : ByteArray → PV × List Ob := fun r => (.one (ls r), [])
def F9 (n : Nat) (a0 : ByteArray) : Option ByteArray :=
 (F25 n a0).bind fun (r1 : Int) =>
 (F26 n a0).bind fun (r2 : ByteArray) =>
 if r2.size + (mkStr [IntKind.wrap .u8 r1, IntKind.wrap .u8 (shrI .u32 r1 8), IntKind.wrap .u8 (shrI .u32 r1 16), IntKind.wrap .u8 (shrI .u32 r1 24)]).size ≤ 9223372036854775807 then
  some (r2 ++ (mkStr [IntKind.wrap .u8 r1, IntKind.wrap .u8 (shrI .u32 r1 8), IntKind.wrap .u8 (shrI .u32 r1 16), IntKind.wrap .u8 (shrI .u32 r1 24)]))
 else none
theorem F9_ok (n : Nat) (a0 : ByteArray) : ∀ r, F9 n a0 = some r → D 9 [.one (ls a0)] [] = some (F9_e r) := by
 refine fn_to (D := D) (n := n + 8) (nt := 22) (rs := pc9_r) (c := p9c7) (L := [(0, qs a0)]) (M := []) (k := 0) rfl rfl rfl rfl rfl rfl rfl ?_
 unfold F9
 refine Sim.su 1 [] (.sv 1 [] (.cl 5 true [[]] 25 [4] none (fun r1 => .one (li .u32 r1)) [qs a0] (F25_ok _ _) (fun r1 => ?_)))
 refine SimI.ru 1 [] (.thenN (.sv 1 [] (.cm 7 false [[]] 26 [6] none [(6, .imm)] (F26_ok _ _) (fun r2 => ?_))))
 exact SimI.rv 12 [] (.se ⟨some 20, .b2s 19, none, [(19, .imm)]⟩ [(20, qs (mkStr [IntKind.wrap .u8 r1, IntKind.wrap .u8 (shrI .u32 r1 8), IntKind.wrap .u8 (shrI .u32 r1 16), IntKind.wrap .u8 (shrI .u32 r1 24)]))] [] (pe (eff_b2s (l := [IntKind.wrap .u8 r1, IntKind.wrap .u8 (shrI .u32 r1 8), IntKind.wrap .u8 (shrI .u32 r1 16), IntKind.wrap .u8 (shrI .u32 r1 24)]) (by kernel_rfl))) (.gp 21 (.bin .add 9 false false) [7, 20] none [(7, .imm), (20, .imm)] (fun hc => pr_addS _ _ _ r2 (mkStr [IntKind.wrap .u8 r1, IntKind.wrap .u8 (shrI .u32 r1 8), IntKind.wrap .u8 (shrI .u32 r1 16), IntKind.wrap .u8 (shrI .u32 r1 24)]) hc) (.ru 1 [] (.thenN (.ret .fn)))))
def F48_e : (Int × Int × Int) → PV × List Ob := fun r => (.tup [.one (li .u64 r.1), .one (li .i64 r.2.1), .one (li .i64 r.2.2)], [])
def F48_j10 (n : Nat) (i5 i6 x8 : Int) : Option (Int × Int × Int) :=
  some (bitsI .or .u64 i5 (shlI .u64 (IntKind.wrap .u64 (bitsI .and .u8 x8 127)) (IntKind.wrap .u64 (IntKind.wrap .i64 (7 * i6)))), IntKind.wrap .i64 (i6 + 1), 0)
theorem F48_j10_ok (n : Nat) (i5 i6 x8 : Int) (m_l7 : Nat) : Sim Tryz.prog D (n + 8) p48c28 [(5, .one (li .u64 (bitsI .or .u64 i5 (shlI .u64 (IntKind.wrap .u64 (bitsI .and .u8 x8 127)) (IntKind.wrap .u64 (IntKind.wrap .i64 (7 * i6))))))), (6, qj i6)] [] (F48_j10 n i5 i6 x8) (QB 1 (QT Tryz.prog D (n + 8) p48c37 (QL Tryz.prog D (n + 8) m_l7 p48c39 (QB 0 (QT Tryz.prog D (n + 8) p48c45 (QF false pc48_r 0 F48_e)))))) := by
  unfold F48_j10
  exact Sim.seq (.rg (W70 i5 x8 i6) [] (.ru 6 [] (.thenN (.ret (.blockR (.thenR (.loopR (.blockR (.thenR .fn)))))))))
def F48_j9 (n : Nat) (i5 i6 x8 : Int) (rec_l7 : Int → Int → Option (Int × Int × Int)) : Option (Int × Int × Int) :=
  if ¬ (IntKind.wrap .u64 (IntKind.wrap .i64 (7 * i6)) < 0) then
   if decide (x8 < 128) then
    if x8 == 0 then
     if decide ((0 : Int) < i6) then
      some (0, 0, 11)
     else
      F48_j10 n i5 i6 x8
    else
     F48_j10 n i5 i6 x8
   else
    rec_l7 (bitsI .or .u64 i5 (shlI .u64 (IntKind.wrap .u64 (bitsI .and .u8 x8 127)) (IntKind.wrap .u64 (IntKind.wrap .i64 (7 * i6))))) (IntKind.wrap .i64 (i6 + 1))
  else none
theorem F48_j9_ok (n : Nat) (a0 : ByteArray) (i5 i6 x8 : Int) (rec_l7 : Int → Int → Option (Int × Int × Int)) (m_l7 : Nat) (ih_l7 : ∀ (i5 i6 : Int), SimL Tryz.prog D (n + 8) m_l7 p48c39 [(0, qs a0), (5, .one (li .u64 i5)), (6, qj i6)] [] (rec_l7 i5 i6) (QB 0 (QT Tryz.prog D (n + 8) p48c45 (QF false pc48_r 0 F48_e)))) : Sim Tryz.prog D (n + 8) p48c33 [(0, qs a0), (5, .one (li .u64 i5)), (6, qj i6), (7, .one (li .u8 x8))] [] (F48_j9 n i5 i6 x8 rec_l7) (QB 1 (QT Tryz.prog D (n + 8) p48c37 (QL Tryz.prog D (n + 8) m_l7 p48c39 (QB 0 (QT Tryz.prog D (n + 8) p48c45 (QF false pc48_r 0 F48_e)))))) := by
  unfold F48_j9
  refine Sim.seq (.rs (.rv 7 [] (.gp 30 (.bin .shl 67 false false) [26, 29] none [] (fun hc => pr_shl _ _ _ .u64 .u64 (iw .u64 (bitsI .and .u8 x8 127)) (iw .u64 (iw .i64 (7 * i6))) hc) (.ru 2 [] (.thenN (.su 2 [] (.cd _ ?_ ?_)))))))
  ·refine Sim.seq (.sv 3 [] (.sp 36 _ ?_ ?_))
   ·refine SimI.ru 3 [] (.thenN (.cd _ ?_ ?_))
    ·exact Sim.su 3 [] (.ret (.thenR (.blockR (.thenR (.loopR (.blockR (.thenR .fn)))))))
    ·refine Sim.skip (.thenN (.pr [5, 6] [] [] (W70 i5 x8 i6) [] ?_))
     exact F48_j10_ok n i5 i6 x8 m_l7
   ·refine SimI.ru 3 [] (.thenN (.cf (.skip (.thenN (.pr [5, 6] [] [] (W70 i5 x8 i6) [] ?_)))))
    exact F48_j10_ok n i5 i6 x8 m_l7
  ·refine Sim.skip (.blockN (.thenN (.region0 (.ru 3 [] (.loopN (.pr [0, 5, 6] [] [] [(0, qs a0), (5, .one (li .u64 (bitsI .or .u64 i5 (shlI .u64 (iw .u64 (bitsI .and .u8 x8 127)) (iw .u64 (iw .i64 (7 * i6))))))), (6, qj (iw .i64 (i6 + 1)))] [] ?_))))))
   exact ih_l7 (bitsI .or .u64 i5 (shlI .u64 (iw .u64 (bitsI .and .u8 x8 127)) (iw .u64 (iw .i64 (7 * i6))))) (iw .i64 (i6 + 1))
def F48_l7 (n : Nat) (a0 : ByteArray) : Nat → Int → Int → Option (Int × Int × Int)
 | 0, _, _ => none
 | m + 1, i5, i6 =>
  if decide (i6 < (a0.size : Int)) then
   (ix (bytesL a0) i6).bind fun (x8 : Int) =>
   if i6 == 9 then
    if decide ((1 : Int) < x8) then
     some (0, 0, 11)
    else
     F48_j9 n i5 i6 x8 (F48_l7 n a0 m)
   else
    F48_j9 n i5 i6 x8 (F48_l7 n a0 m)
  else
   some (0, 0, 10)
theorem F48_l7_ok (n : Nat) (a0 : ByteArray) : ∀ (m : Nat) (i5 i6 : Int), SimL Tryz.prog D (n + 8) m p48c39 [(0, qs a0), (5, .one (li .u64 i5)), (6, qj i6)] [] (F48_l7 n a0 m i5 i6) (QB 0 (QT Tryz.prog D (n + 8) p48c45 (QF false pc48_r 0 F48_e))) := by
 intro m_l7
 induction m_l7 with
 | zero => intro i5 i6; exact SimL.zero'  rfl
 | succ m_l7 ih_l7 =>
  intro i5 i6
  refine SimL.succ ?_
  unfold F48_l7
  refine Sim.seq (.seq (.rg [(0, qs a0), (5, .one (li .u64 i5)), (6, qj i6)] [] (.ru 4 [] (.thenN (.cd _ ?_ ?_)))))
  ·refine Sim.skip (.thenN (.seq (.block (.sv 2 [] (.bn ⟨some 16, .prim (.index 9) [14, 15], none, []⟩ (fun x8 => [(16, .one (li .u8 x8))]) (fun x8 => []) (fun x8 hr => pe (ep (pr_index (s := a0) (k := .i64) (i := i6) (b := x8) Tryz.underlying9 hr))) (fun x8 => ?_))))))
   refine SimI.ru 1 [] (.thenN (.seq (.sv 3 [] (.sp 19 _ ?_ ?_))))
   ·refine SimI.ru 3 [] (.thenN (.cd _ ?_ ?_))
    ·exact Sim.su 3 [] (.ret (.thenR (.blockR (.thenR (.loopR (.blockR (.thenR .fn)))))))
    ·refine Sim.skip (.thenN (.pr [0, 5, 6, 7] [] [] [(0, qs a0), (5, .one (li .u64 i5)), (6, qj i6), (7, .one (li .u8 x8))] [] ?_))
     exact F48_j9_ok n a0 i5 i6 x8 (F48_l7 n a0 m_l7) m_l7 ih_l7
   ·refine SimI.ru 3 [] (.thenN (.cf (.skip (.thenN (.pr [0, 5, 6, 7] [] [] [(0, qs a0), (5, .one (li .u64 i5)), (6, qj i6), (7, .one (li .u8 x8))] [] ?_)))))
    exact F48_j9_ok n a0 i5 i6 x8 (F48_l7 n a0 m_l7) m_l7 ih_l7
  ·exact Sim.exit (.thenX (.loopX (.blockX (.thenN (.su 3 [] (.ret .fn))))))
def F48 (n : Nat) (a0 : ByteArray) : Option (Int × Int × Int) :=
 F48_l7 n a0 (n + 8) 0 0
theorem F48_ok (n : Nat) (a0 : ByteArray) : ∀ r, F48 n a0 = some r → D 48 [.one (ls a0)] [] = some (F48_e r) := by
 refine fn_to (D := D) (n := n + 8) (nt := 43) (rs := pc48_r) (c := p48c48) (L := [(0, qs a0)]) (M := []) (k := 0) rfl rfl rfl rfl rfl rfl rfl ?_
 unfold F48
 refine Sim.su 3 [] (.su 1 [] (.seq (.su 1 [] (.block (.loop (.pr [0, 5, 6] [] [] [(0, qs a0), (5, .one (li .u64 0)), (6, qj 0)] [] ?_))))))
 exact F48_l7_ok n a0 (n + 8) 0 0
def F23_e : (ByteArray × Int × Int) → PV × List Ob := fun r => (.tup [.one (ls r.1), .one (li .i64 r.2.1), .one (li .i64 r.2.2)], [])
def F23 (n : Nat) (a0 : ByteArray) (a1 : Int) : Option (ByteArray × Int × Int) :=
 (F48 n a0).bind fun (r1 : (Int × Int × Int)) =>
 if r1.2.2 != 0 then
  some (ByteArray.empty, 0, r1.2.2)
 else
  if decide (IntKind.wrap .u64 (imax 0 a1) < r1.1) then
   some (ByteArray.empty, 0, 13)
  else
   if decide (IntKind.wrap .u64 (IntKind.wrap .i64 ((a0.size : Int) - r1.2.1)) < r1.1) then
    some (ByteArray.empty, 0, 10)
   else
    if 0 ≤ (r1.2.1 : Int) ∧ (r1.2.1 : Int) ≤ IntKind.wrap .i64 (r1.2.1 + IntKind.wrap .i64 r1.1) ∧ IntKind.wrap .i64 (r1.2.1 + IntKind.wrap .i64 r1.1) ≤ (a0.size : Int) then
     some (a0.extract r1.2.1.toNat (IntKind.wrap .i64 (r1.2.1 + IntKind.wrap .i64 r1.1)).toNat, IntKind.wrap .i64 (r1.2.1 + IntKind.wrap .i64 r1.1), 0)
    else none
theorem F23_ok (n : Nat) (a0 : ByteArray) (a1 : Int) : ∀ r, F23 n a0 a1 = some r → D 23 [.one (ls a0), .one (li .i64 a1)] [] = some (F23_e r) := by
 refine fn_to (D := D) (n := n + 8) (nt := 45) (rs := pc23_r) (c := p23c28) (L := [(0, qs a0), (1, qj a1)]) (M := []) (k := 0) rfl rfl rfl rfl rfl rfl rfl ?_
 unfold F23
 refine Sim.su 3 [] (.sv 1 [] (.cl 12 true [[]] 48 [11] none (fun r1 => .tup (W118 r1)) [qs a0] (F48_ok _ _) (fun r1 => ?_)))
 refine SimI.ru 7 [] (.thenN (.seq (.block (.su 3 [] (.cd _ ?_ ?_)))))
 ·exact Sim.su 4 [] (.ret (.blockR (.thenR .fn)))
 ·refine Sim.su 6 [] (.cd _ ?_ ?_)
  ·exact Sim.su 3 [] (.ret (.blockR (.thenR .fn)))
  ·refine Sim.su 8 [] (.cd _ ?_ ?_)
   ·exact Sim.su 3 [] (.ret (.blockR (.thenR .fn)))
   ·exact Sim.skip (.blockN (.thenN (.sv 6 [] (.gp 40 (.slice 9 true true) [34, 35, 39] none [] (fun hc => pr_cutS (s := a0) (k := .i64) (l := .i64) (a := r1.2.1) (b := IntKind.wrap .i64 (r1.2.1 + IntKind.wrap .i64 r1.1)) Tryz.underlying9 hc) (.ru 7 [] (.thenN (.ret .fn)))))))
def F7_e : (ByteArray × Int × Int) → PV × List Ob := fun r => (.tup [.one (ls r.1), .one (li .i64 r.2.1), .one (li .i64 r.2.2)], [])
def F7 (n : Nat) (a0 : ByteArray) : Option (ByteArray × Int × Int) :=
 (F23 n a0 40000).bind fun (r1 : (ByteArray × Int × Int)) =>
 if r1.2.2 != 0 then
  some (ByteArray.empty, 0, r1.2.2)
 else
  if decide ((a0.size : Int) < IntKind.wrap .i64 (r1.2.1 + 4)) then
   some (ByteArray.empty, 0, 10)
  else
   (F9 n r1.1).bind fun (r2 : ByteArray) =>
   if 0 ≤ (IntKind.wrap .i64 (r1.2.1 + 4) : Int) ∧ (IntKind.wrap .i64 (r1.2.1 + 4) : Int) ≤ (a0.size : Int) then
    if !(r2.toList == (a0.extract 0 (IntKind.wrap .i64 (r1.2.1 + 4)).toNat).toList) then
     some (ByteArray.empty, 0, 12)
    else
     some (r1.1, IntKind.wrap .i64 (r1.2.1 + 4), 0)
   else none
theorem F7_ok (n : Nat) (a0 : ByteArray) : ∀ r, F7 n a0 = some r → D 7 [.one (ls a0)] [] = some (F7_e r) := by
 refine fn_to (D := D) (n := n + 8) (nt := 32) (rs := pc7_r) (c := p7c31) (L := [(0, qs a0)]) (M := []) (k := 0) rfl rfl rfl rfl rfl rfl rfl ?_
 unfold F7
 refine Sim.su 3 [] (.sv 1 [] (.cl 10 true [[], []] 23 [9, kk 40000] none (fun r1 => .tup (W76 r1)) [qs a0, qj 40000] (F23_ok _ _ _) (fun r1 => ?_)))
 refine SimI.ru 7 [] (.thenN (.seq (.su 2 [] (.cd _ ?_ ?_))))
 ·exact Sim.su 4 [] (.ret (.thenR .fn))
 ·refine Sim.skip (.thenN (.seq (.su 5 [] (.cd _ ?_ ?_))))
  ·exact Sim.su 3 [] (.ret (.thenR .fn))
  ·refine Sim.skip (.thenN (.seq (.sv 1 [] (.cm 23 false [[]] 9 [22] none [(22, .imm)] (F9_ok _ _) (fun r2 => ?_)))))
   refine SimI.rv 3 [] (.gp 27 (.slice 9 false true) [24, 26] none [(24, .imm), (26, .imm)] (fun hc => pr_cutH (s := a0) (l := .i64) (b := IntKind.wrap .i64 (r1.2.1 + 4)) Tryz.underlying9 hc) (.ru 1 [] (.thenN (.cd _ ?_ ?_))))
   ·exact Sim.su 3 [] (.ret (.thenR .fn))
   ·exact Sim.skip (.thenN (.su 6 [] (.ret .fn)))
def F79_e : Bool → PV × List Ob := fun r => (.one (lb r), [])
def F79 (n : Nat) (a0 : Field) : Option Bool :=
 if a0.N == 0 then
  some (decide ((a0.Text.size : Int) ≤ 12))
 else
  if a0.Text.toList == ByteArray.empty.toList then
   some (decide ((a0.Text.size : Int) ≤ 12))
  else
   some false
theorem F79_ok (n : Nat) (a0 : Field) : ∀ r, F79 n a0 = some r → D 79 [.agg [li .i64 a0.N, ls a0.Text]] [] = some (F79_e r) := by
 refine fn_to (D := D) (n := n + 8) (nt := 17) (rs := pc79_r) (c := p79c5) (L := [(0, .agg [lj a0.N, ls a0.Text])]) (M := []) (k := 0) rfl rfl rfl rfl rfl rfl rfl ?_
 unfold F79
 refine Sim.su 2 (W128 a0) (.sv 4 [] (.sp 6 _ ?_ ?_))
 ·exact SimI.ru 11 [] (.thenN (.ret .fn))
 ·refine SimI.rn 5 (w12 a0) [] (.sp 11 _ ?_ ?_)
  ·exact SimI.rd 6 (w13 a0) [] (.thenN (.ret .fn))
  ·exact SimI.ru 6 [] (.thenN (.ret .fn))
def F80_e : Bool → PV × List Ob := fun r => (.one (lb r), [])
def F80 (n : Nat) (a0 : Point) : Option Bool :=
 if decide ((0 : Int) ≤ a0.X) then
  if decide (a0.X < 64) then
   if decide ((0 : Int) ≤ a0.Y) then
    some (decide (a0.Y < 64))
   else
    some false
  else
   some false
 else
  some false
theorem F80_ok (n : Nat) (a0 : Point) : ∀ r, F80 n a0 = some r → D 80 [.agg [li .i64 a0.X, li .i64 a0.Y]] [] = some (F80_e r) := by
 refine fn_to (D := D) (n := n + 8) (nt := 21) (rs := pc80_r) (c := p80c5) (L := [(0, .agg [lj a0.X, lj a0.Y])]) (M := []) (k := 0) rfl rfl rfl rfl rfl rfl rfl ?_
 unfold F80
 refine Sim.su 2 (W105 a0) (.st 4 (w18 a0) [] (.sp 6 _ ?_ ?_))
 ·refine SimI.rn 5 (w19 a0) [] (.sp 11 _ ?_ ?_)
  ·refine SimI.rn 5 (w20 a0) [] (.sp 16 _ ?_ ?_)
   ·exact SimI.rd 5 (w21 a0) [] (.thenN (.ret .fn))
   ·exact SimI.ru 5 [] (.thenN (.ret .fn))
  ·exact SimI.ru 10 [] (.thenN (.ret .fn))
 ·exact SimI.ru 15 [] (.thenN (.ret .fn))
def F74_e : Bool → PV × List Ob := fun r => (.one (lb r), [])
def F74_u15 (n : Nat) (b14 : Bool) : Option Bool :=
  some b14
theorem F74_u15_ok (n : Nat) (a0 : Thing) (b14 : Bool) : SimL Tryz.prog D (n + 8) (n + 4) p74c13 (W94 b14) (W11 a0) (F74_u15 n b14) (QB 0 (QT Tryz.prog D (n + 8) p74c19 (QF false pc74_r 0 F74_e))) := by
  unfold F74_u15
  exact SimL.succ (.seq (.seq (.rg (W94 b14) (W11 a0) (.ru 2 [] (.thenN (.cf (.exit (.thenX (.loopX (.blockX (.thenN (.su 2 [] (.ret .fn)))))))))))))
def F74_u12 (n : Nat) (a0 : Thing) (b11 : Bool) : Option Bool :=
  if b11 then
   (F79 n a0.F.a3).bind fun (r13 : Bool) =>
   F74_u15 n r13
  else
   F74_u15 n false
theorem F74_u12_ok (n : Nat) (a0 : Thing) (b11 : Bool) : SimL Tryz.prog D (n + 8) (n + 5) p74c13 (W95 b11) (W11 a0) (F74_u12 n a0 b11) (QB 0 (QT Tryz.prog D (n + 8) p74c19 (QF false pc74_r 0 F74_e))) := by
  unfold F74_u12
  refine SimL.succ (.seq (.seq (.rg (W95 b11) (W11 a0) (.ru 2 [] (.thenN (.ct (.skip (.thenN (.seq (.block (.region0 (.rv 2 [] (.sp 23 _ ?_ ?_)))))))))))))
  ·refine SimI.rv 4 [] (.cl 28 true [[]] 79 [27] (some (23, true)) (fun r13 => qb r13) [.agg [lj a0.F.a3.N, ls a0.F.a3.Text]] (F79_ok _ _) (fun r13 => ?_))
   refine SimI.ru 2 [] (.blockN (.thenN (.region0 (.ru 3 [] (.loopN (.pr [1, 3, 4] [1] [] (W94 r13) (W11 a0) ?_))))))
   exact F74_u15_ok n a0 r13
  ·refine SimI.ru 7 [] (.blockN (.thenN (.region0 (.ru 3 [] (.loopN (.pr [1, 3, 4] [1] [] [(1, qp 1 0), (3, qb false), (4, qj 4)] (W11 a0) ?_))))))
   exact F74_u15_ok n a0 false
def F74_u9 (n : Nat) (a0 : Thing) (b8 : Bool) : Option Bool :=
  if b8 then
   (F79 n a0.F.a2).bind fun (r10 : Bool) =>
   F74_u12 n a0 r10
  else
   F74_u12 n a0 false
theorem F74_u9_ok (n : Nat) (a0 : Thing) (b8 : Bool) : SimL Tryz.prog D (n + 8) (n + 6) p74c13 (W96 b8) (W11 a0) (F74_u9 n a0 b8) (QB 0 (QT Tryz.prog D (n + 8) p74c19 (QF false pc74_r 0 F74_e))) := by
  unfold F74_u9
  refine SimL.succ (.seq (.seq (.rg (W96 b8) (W11 a0) (.ru 2 [] (.thenN (.ct (.skip (.thenN (.seq (.block (.region0 (.rv 2 [] (.sp 23 _ ?_ ?_)))))))))))))
  ·refine SimI.rv 4 [] (.cl 28 true [[]] 79 [27] (some (23, true)) (fun r10 => qb r10) [.agg [lj a0.F.a2.N, ls a0.F.a2.Text]] (F79_ok _ _) (fun r10 => ?_))
   refine SimI.ru 2 [] (.blockN (.thenN (.region0 (.ru 3 [] (.loopN (.pr [1, 3, 4] [1] [] (W95 r10) (W11 a0) ?_))))))
   exact F74_u12_ok n a0 r10
  ·refine SimI.ru 7 [] (.blockN (.thenN (.region0 (.ru 3 [] (.loopN (.pr [1, 3, 4] [1] [] [(1, qp 1 0), (3, qb false), (4, qj 3)] (W11 a0) ?_))))))
   exact F74_u12_ok n a0 false
def F74_u6 (n : Nat) (a0 : Thing) (b5 : Bool) : Option Bool :=
  if b5 then
   (F79 n a0.F.a1).bind fun (r7 : Bool) =>
   F74_u9 n a0 r7
  else
   F74_u9 n a0 false
theorem F74_u6_ok (n : Nat) (a0 : Thing) (b5 : Bool) : SimL Tryz.prog D (n + 8) (n + 7) p74c13 (W97 b5) (W11 a0) (F74_u6 n a0 b5) (QB 0 (QT Tryz.prog D (n + 8) p74c19 (QF false pc74_r 0 F74_e))) := by
  unfold F74_u6
  refine SimL.succ (.seq (.seq (.rg (W97 b5) (W11 a0) (.ru 2 [] (.thenN (.ct (.skip (.thenN (.seq (.block (.region0 (.rv 2 [] (.sp 23 _ ?_ ?_)))))))))))))
  ·refine SimI.rv 4 [] (.cl 28 true [[]] 79 [27] (some (23, true)) (fun r7 => qb r7) [.agg [lj a0.F.a1.N, ls a0.F.a1.Text]] (F79_ok _ _) (fun r7 => ?_))
   refine SimI.ru 2 [] (.blockN (.thenN (.region0 (.ru 3 [] (.loopN (.pr [1, 3, 4] [1] [] (W96 r7) (W11 a0) ?_))))))
   exact F74_u9_ok n a0 r7
  ·refine SimI.ru 7 [] (.blockN (.thenN (.region0 (.ru 3 [] (.loopN (.pr [1, 3, 4] [1] [] [(1, qp 1 0), (3, qb false), (4, qj 2)] (W11 a0) ?_))))))
   exact F74_u9_ok n a0 false
def F74_j3 (n : Nat) (a0 : Thing) (b2 : Bool) : Option Bool :=
  if b2 then
   (F79 n a0.F.a0).bind fun (r4 : Bool) =>
   F74_u6 n a0 r4
  else
   F74_u6 n a0 false
theorem F74_j3_ok (n : Nat) (a0 : Thing) (b2 : Bool) : Sim Tryz.prog D (n + 8) p74c20 [(1, qp 1 0), (3, qb b2)] (W11 a0) (F74_j3 n a0 b2) (QF false pc74_r 0 F74_e) := by
  unfold F74_j3
  refine Sim.seq (.seq (.rs (.ru 1 [] (.thenN (.block (.loop (.succ (.seq (.seq (.rg [(1, qp 1 0), (3, qb b2), (4, qj 0)] (W11 a0) (.ru 2 [] (.thenN (.ct (.skip (.thenN (.seq (.block (.region0 (.rv 2 [] (.sp 23 _ ?_ ?_))))))))))))))))))))
  ·refine SimI.rv 4 [] (.cl 28 true [[]] 79 [27] (some (23, true)) (fun r4 => qb r4) [.agg [lj a0.F.a0.N, ls a0.F.a0.Text]] (F79_ok _ _) (fun r4 => ?_))
   refine SimI.ru 2 [] (.blockN (.thenN (.region0 (.ru 3 [] (.loopN (.pr [1, 3, 4] [1] [] (W97 r4) (W11 a0) ?_))))))
   exact F74_u6_ok n a0 r4
  ·refine SimI.ru 7 [] (.blockN (.thenN (.region0 (.ru 3 [] (.loopN (.pr [1, 3, 4] [1] [] [(1, qp 1 0), (3, qb false), (4, qj 1)] (W11 a0) ?_))))))
   exact F74_u6_ok n a0 false
def F74 (n : Nat) (a0 : Thing) : Option Bool :=
 if decide ((0 : Int) ≤ a0.ID) then
  if decide (a0.ID ≤ 1000000) then
   (F80 n a0.At).bind fun (r1 : Bool) =>
   F74_j3 n a0 r1
  else
   F74_j3 n a0 false
 else
  F74_j3 n a0 false
theorem F74_ok (n : Nat) (a0 : Thing) : ∀ r, F74 n a0 = some r → D 74 [.agg (Thing.cells a0)] [] = some (F74_e r) := by
 refine fn_to (D := D) (n := n + 8) (nt := 31) (rs := pc74_r) (c := p74c22) (L := [(0, .agg (Thing.cells a0))]) (M := []) (k := 0) rfl rfl rfl rfl rfl rfl rfl ?_
 unfold F74
 refine Sim.su 2 (W11 a0) (.sv 4 [] (.sp 8 _ ?_ ?_))
 ·refine SimI.rv 5 [] (.sp 13 _ ?_ ?_)
  ·refine SimI.rv 2 [] (.cl 16 true [[]] 80 [15] (some (13, true)) (fun r1 => qb r1) (W119 a0) (F80_ok _ _) (fun r1 => ?_))
   refine SimI.ru 2 [] (.thenN (.pr [1, 3] [1] [] [(1, qp 1 0), (3, qb r1)] (W11 a0) ?_))
   exact F74_j3_ok n a0 r1
  ·refine SimI.ru 5 [] (.thenN (.pr [1, 3] [1] [] W55 (W11 a0) ?_))
   exact F74_j3_ok n a0 false
 ·refine SimI.ru 10 [] (.thenN (.pr [1, 3] [1] [] W55 (W11 a0) ?_))
  exact F74_j3_ok n a0 false
def F49_e : Bool → PV × List Ob := fun r => (.one (lb r), [])
def F49_l4 (n : Nat) (a0 : (List Thing)) : Nat → Int → Option Bool
 | 0, _ => none
 | m + 1, i3 =>
  if decide (i3 < ((a0).length : Int)) then
   (ix a0 i3).bind fun (x5 : Thing) =>
   (F74 n x5).bind fun (r6 : Bool) =>
   if !(r6) then
    some false
   else
    if decide ((0 : Int) < i3) then
     (ix a0 i3).bind fun (x7 : Thing) =>
     (ix a0 (IntKind.wrap .i64 (i3 - 1))).bind fun (x8 : Thing) =>
     if decide (x7.ID ≤ x8.ID) then
      some false
     else
      (F49_l4 n a0 m) (IntKind.wrap .i64 (i3 + 1))
    else
     (F49_l4 n a0 m) (IntKind.wrap .i64 (i3 + 1))
  else
   some (decide (((a0).length : Int) ≤ 200))
theorem F49_l4_ok (n : Nat) (a0 : (List Thing)) : ∀ (m : Nat) (i3 : Int), SimL Tryz.prog D (n + 8) m p49c18 [(0, .one (vw Thing.cod a0)), (3, qj i3)] [] (F49_l4 n a0 m i3) (QB 0 (QT Tryz.prog D (n + 8) p49c24 (QF false pc49_r 0 F49_e))) := by
 intro m_l4
 induction m_l4 with
 | zero => intro i3; exact SimL.zero'  rfl
 | succ m_l4 ih_l4 =>
  intro i3
  refine SimL.succ ?_
  unfold F49_l4
  refine Sim.seq (.seq (.rg [(0, .one (vw Thing.cod a0)), (3, qj i3)] [] (.ru 4 [] (.thenN (.cd _ ?_ ?_)))))
  ·refine Sim.skip (.thenN (.seq (.block (.sv 2 [] (.bn ⟨some 12, .iaddrS 11 10 11, none, [(10, .imm), (11, .imm)]⟩ (fun x5 => [(12, .one (.eptr (Thing.cod.enc x5) 0))]) (fun x5 => []) (fun x5 hr => pe (ei (c := Thing.cod) (k := .i64) hr)) (fun x5 => ?_))))))
   refine SimI.rv 1 [] (.cm 14 false [[]] 74 [13] none [(13, .imm)] (F74_ok _ _) (fun r6 => ?_))
   refine SimI.rv 2 [] (.sp 16 _ ?_ ?_)
   ·exact SimI.ru 17 [] (.thenN (.ct (.su 1 [] (.ret (.blockR (.thenR (.loopR (.blockR (.thenR .fn)))))))))
   ·refine SimI.rv 3 [] (.sp 19 _ ?_ ?_)
    ·refine SimI.rv 2 [] (.bn ⟨some 22, .iaddrS 11 20 21, some (19, true), [(20, .imm), (21, .imm)]⟩ (fun x7 => [(22, .one (.eptr (Thing.cod.enc x7) 0))]) (fun x7 => []) (fun x7 hr => pe (ei (c := Thing.cod) (k := .i64) hr)) (fun x7 => ?_))
     refine SimI.rv 5 [] (.bn ⟨some 28, .iaddrS 11 25 27, some (19, true), [(25, .imm), (27, .imm)]⟩ (fun x8 => [(28, .one (.eptr (Thing.cod.enc x8) 0))]) (fun x8 => []) (fun x8 hr => pe (ei (c := Thing.cod) (k := .i64) hr)) (fun x8 => ?_))
     refine SimI.ru 5 [] (.thenN (.cd _ ?_ ?_))
     ·exact Sim.su 1 [] (.ret (.blockR (.thenR (.loopR (.blockR (.thenR .fn))))))
     ·refine Sim.skip (.blockN (.thenN (.region0 (.ru 3 [] (.loopN (.pr [0, 3] [] [] [(0, .one (vw Thing.cod a0)), (3, qj (iw .i64 (i3 + 1)))] [] ?_))))))
      exact ih_l4 (iw .i64 (i3 + 1))
    ·refine SimI.ru 14 [] (.thenN (.cf (.skip (.blockN (.thenN (.region0 (.ru 3 [] (.loopN (.pr [0, 3] [] [] [(0, .one (vw Thing.cod a0)), (3, qj (iw .i64 (i3 + 1)))] [] ?_)))))))))
     exact ih_l4 (iw .i64 (i3 + 1))
  ·exact Sim.exit (.thenX (.loopX (.blockX (.thenN (.su 4 [] (.ret .fn))))))
def F49 (n : Nat) (a0 : (List Thing)) : Option Bool :=
 F49_l4 n a0 (n + 8) 0
theorem F49_ok (n : Nat) (a0 : (List Thing)) : ∀ r, F49 n a0 = some r → D 49 [.one (vw Thing.cod a0)] [] = some (F49_e r) := by
 refine fn_to (D := D) (n := n + 8) (nt := 37) (rs := pc49_r) (c := p49c26) (L := [(0, .one (vw Thing.cod a0))]) (M := []) (k := 0) rfl rfl rfl rfl rfl rfl rfl ?_
 unfold F49
 refine Sim.su 1 [] (.seq (.su 1 [] (.block (.loop (.pr [0, 3] [] [] [(0, .one (vw Thing.cod a0)), (3, qj 0)] [] ?_)))))
 exact F49_l4_ok n a0 (n + 8) 0
def F50_e : Bool → PV × List Ob := fun r => (.one (lb r), [])
def F50 (n : Nat) (a0 : Int) : Option Bool :=
 if decide ((0 : Int) ≤ a0) then
  some (decide (a0 < 16))
 else
  some false
theorem F50_ok (n : Nat) (a0 : Int) : ∀ r, F50 n a0 = some r → D 50 [.one (li .i64 a0)] [] = some (F50_e r) := by
 refine fn_to (D := D) (n := n + 8) (nt := 9) (rs := pc50_r) (c := p50c5) (L := [(0, qj a0)]) (M := []) (k := 0) rfl rfl rfl rfl rfl rfl rfl ?_
 unfold F50
 refine Sim.su 1 [] (.sv 3 [] (.sp 5 _ ?_ ?_))
 ·exact SimI.ru 4 [] (.thenN (.ret .fn))
 ·exact SimI.ru 4 [] (.thenN (.ret .fn))
def F75_e : Bool → PV × List Ob := fun r => (.one (lb r), [])
def F75 (n : Nat) (a0 a1 a2 : Int) : Option Bool :=
 if decide (a1 ≤ a0) then
  some (decide (a0 ≤ a2))
 else
  some false
theorem F75_ok (n : Nat) (a0 a1 a2 : Int) : ∀ r, F75 n a0 a1 a2 = some r → D 75 [.one (li .i64 a0), .one (li .i64 a1), .one (li .i64 a2)] [] = some (F75_e r) := by
 refine fn_to (D := D) (n := n + 8) (nt := 15) (rs := pc75_r) (c := p75c5) (L := [(0, qj a0), (1, qj a1), (2, qj a2)]) (M := []) (k := 0) rfl rfl rfl rfl rfl rfl rfl ?_
 unfold F75
 refine Sim.su 1 [] (.sv 4 [] (.sp 10 _ ?_ ?_))
 ·exact SimI.ru 5 [] (.thenN (.ret .fn))
 ·exact SimI.ru 5 [] (.thenN (.ret .fn))
def F76_e : Command → PV × List Ob := fun r => (.agg (Command.cells r), [])
def F76 (n : Nat) (a0 : Command) : Option Command :=
 if a0.Kind == 1 then
  some (Command.mk a0.Kind 0 0 0 a0.At a0.F (Field.mk 0 ByteArray.empty) a0.Client a0.Session (Rect.mk 0 0 0 0))
 else
  if a0.Kind == 2 then
   some (Command.mk a0.Kind a0.ID 0 0 a0.At (A4.mk (Field.mk 0 ByteArray.empty) (Field.mk 0 ByteArray.empty) (Field.mk 0 ByteArray.empty) (Field.mk 0 ByteArray.empty)) (Field.mk 0 ByteArray.empty) a0.Client a0.Session (Rect.mk 0 0 0 0))
  else
   if a0.Kind == 3 then
    some (Command.mk a0.Kind a0.ID a0.Which 0 (Point.mk 0 0) (A4.mk (Field.mk 0 ByteArray.empty) (Field.mk 0 ByteArray.empty) (Field.mk 0 ByteArray.empty) (Field.mk 0 ByteArray.empty)) a0.Value a0.Client a0.Session (Rect.mk 0 0 0 0))
   else
    if a0.Kind == 4 then
     some (Command.mk a0.Kind a0.ID 0 0 (Point.mk 0 0) (A4.mk (Field.mk 0 ByteArray.empty) (Field.mk 0 ByteArray.empty) (Field.mk 0 ByteArray.empty) (Field.mk 0 ByteArray.empty)) (Field.mk 0 ByteArray.empty) a0.Client a0.Session (Rect.mk 0 0 0 0))
    else
     if a0.Kind == 5 then
      some (Command.mk a0.Kind 0 a0.Which a0.To (Point.mk 0 0) (A4.mk (Field.mk 0 ByteArray.empty) (Field.mk 0 ByteArray.empty) (Field.mk 0 ByteArray.empty) (Field.mk 0 ByteArray.empty)) (Field.mk 0 ByteArray.empty) a0.Client a0.Session (Rect.mk 0 0 0 0))
     else
      if a0.Kind == 6 then
       if a0.Kind == 6 then
        some (Command.mk a0.Kind 0 0 0 (Point.mk 0 0) (A4.mk (Field.mk 0 ByteArray.empty) (Field.mk 0 ByteArray.empty) (Field.mk 0 ByteArray.empty) (Field.mk 0 ByteArray.empty)) (Field.mk 0 ByteArray.empty) a0.Client a0.Session a0.Rect)
       else
        some (Command.mk a0.Kind 0 0 0 (Point.mk 0 0) (A4.mk (Field.mk 0 ByteArray.empty) (Field.mk 0 ByteArray.empty) (Field.mk 0 ByteArray.empty) (Field.mk 0 ByteArray.empty)) (Field.mk 0 ByteArray.empty) a0.Client a0.Session (Rect.mk 0 0 0 0))
      else
       if a0.Kind == 7 then
        some (Command.mk a0.Kind 0 0 0 (Point.mk 0 0) (A4.mk (Field.mk 0 ByteArray.empty) (Field.mk 0 ByteArray.empty) (Field.mk 0 ByteArray.empty) (Field.mk 0 ByteArray.empty)) (Field.mk 0 ByteArray.empty) a0.Client a0.Session a0.Rect)
       else
        some (Command.mk a0.Kind 0 0 0 (Point.mk 0 0) (A4.mk (Field.mk 0 ByteArray.empty) (Field.mk 0 ByteArray.empty) (Field.mk 0 ByteArray.empty) (Field.mk 0 ByteArray.empty)) (Field.mk 0 ByteArray.empty) a0.Client a0.Session (Rect.mk 0 0 0 0))
theorem F76_ok (n : Nat) (a0 : Command) : ∀ r, F76 n a0 = some r → D 76 [.agg (Command.cells a0)] [] = some (F76_e r) := by
 refine fn_to (D := D) (n := n + 8) (nt := 60) (rs := pc76_r) (c := p76c40) (L := (W79 a0)) (M := []) (k := 0) rfl rfl rfl rfl rfl rfl rfl ?_
 unfold F76
 refine Sim.su 2 [(2, some (.cells W0)), (1, some (.cells (Command.cells a0)))] (.su 9 [(3, some (.cells (w1 a0))), (3, some (.cells W0))] (.seq (.su 2 [] (.block (.su 2 [] (.cd _ ?_ ?_))))))
 ·exact Sim.region0 (.ru 8 [(3, some (.cells (W12 a0))), (3, some (.cells (w14 a0)))] (.blockN (.thenN (.su 2 [(2, some (.cells (W12 a0)))] (.ret .fn)))))
 ·refine Sim.su 2 [] (.cd _ ?_ ?_)
  ·exact Sim.region0 (.ru 8 [(3, some (.cells (w4 a0))), (3, some (.cells (w3 a0)))] (.blockN (.thenN (.su 2 [(2, some (.cells (w4 a0)))] (.ret .fn)))))
  ·refine Sim.su 2 [] (.cd _ ?_ ?_)
   ·exact Sim.region0 (.ru 12 [(3, some (.cells (w5 a0))), (3, some (.cells (w15 a0))), (3, some (.cells (w3 a0)))] (.blockN (.thenN (.su 2 [(2, some (.cells (w5 a0)))] (.ret .fn)))))
   ·refine Sim.su 2 [] (.cd _ ?_ ?_)
    ·exact Sim.region0 (.ru 4 [(3, some (.cells (w3 a0)))] (.blockN (.thenN (.su 2 [(2, some (.cells (w3 a0)))] (.ret .fn)))))
    ·refine Sim.su 2 [] (.cd _ ?_ ?_)
     ·exact Sim.region0 (.rd 8 (w16 a0) [(3, some (.cells (w6 a0))), (3, some (.cells (w17 a0)))] (.blockN (.thenN (.su 2 [(2, some (.cells (w6 a0)))] (.ret .fn)))))
     ·refine Sim.seq (.su 2 [] (.cd _ ?_ ?_))
      ·refine Sim.skip (.thenN (.cd _ ?_ ?_))
       ·exact Sim.region0 (.rd 4 (w7 a0) [(3, some (.cells (w2 a0)))] (.blockN (.thenN (.su 2 [(2, some (.cells (w2 a0)))] (.ret .fn)))))
       ·exact Sim.skip (.blockN (.thenN (.su 2 [(2, some (.cells (w1 a0)))] (.ret .fn))))
      ·refine Sim.region0 (.ru 2 [] (.thenN (.cd _ ?_ ?_)))
       ·exact Sim.region0 (.rd 4 (w7 a0) [(3, some (.cells (w2 a0)))] (.blockN (.thenN (.su 2 [(2, some (.cells (w2 a0)))] (.ret .fn)))))
       ·exact Sim.skip (.blockN (.thenN (.su 2 [(2, some (.cells (w1 a0)))] (.ret .fn))))
def F77_e : Bool → PV × List Ob := fun r => (.one (lb r), [])
def F77 (n : Nat) (a0 : Point) : Option Bool :=
 (F75 n a0.X (-1000) 1000).bind fun (r1 : Bool) =>
 if r1 then
  (F75 n a0.Y (-1000) 1000).bind fun (r2 : Bool) =>
  some r2
 else
  some false
theorem F77_ok (n : Nat) (a0 : Point) : ∀ r, F77 n a0 = some r → D 77 [.agg [li .i64 a0.X, li .i64 a0.Y]] [] = some (F77_e r) := by
 refine fn_to (D := D) (n := n + 8) (nt := 11) (rs := pc77_r) (c := p77c5) (L := [(0, .agg [lj a0.X, lj a0.Y])]) (M := []) (k := 0) rfl rfl rfl rfl rfl rfl rfl ?_
 unfold F77
 refine Sim.su 2 (W105 a0) (.sv 2 [] (.cl 5 true [[], [], []] 75 [4, Operand.const (Value.int IntKind.i64 (-1000)), kk 1000] none (fun r1 => qb r1) [qj a0.X, qj (-1000), qj 1000] (F75_ok _ _ _ _) (fun r1 => ?_)))
 refine SimI.rv 1 [] (.sp 6 _ ?_ ?_)
 ·refine SimI.rv 2 [] (.cl 9 true [[], [], []] 75 [8, Operand.const (Value.int IntKind.i64 (-1000)), kk 1000] (some (6, true)) (fun r2 => qb r2) [qj a0.Y, qj (-1000), qj 1000] (F75_ok _ _ _ _) (fun r2 => ?_))
  exact SimI.ru 2 [] (.thenN (.ret .fn))
 ·exact SimI.ru 5 [] (.thenN (.ret .fn))
def F78_e : Bool → PV × List Ob := fun r => (.one (lb r), [])
def F78 (n : Nat) (a0 : Rect) : Option Bool :=
 (F77 n (Point.mk a0.X0 a0.Y0)).bind fun (r1 : Bool) =>
 if r1 then
  (F77 n (Point.mk a0.X1 a0.Y1)).bind fun (r2 : Bool) =>
  some r2
 else
  some false
theorem F78_ok (n : Nat) (a0 : Rect) : ∀ r, F78 n a0 = some r → D 78 [.agg (Rect.cells a0)] [] = some (F78_e r) := by
 refine fn_to (D := D) (n := n + 8) (nt := 17) (rs := pc78_r) (c := p78c5) (L := [(0, .agg (Rect.cells a0))]) (M := []) (k := 0) rfl rfl rfl rfl rfl rfl rfl ?_
 unfold F78
 refine Sim.su 2 [(1, some (.cells (Rect.cells a0)))] (.sv 5 [] (.cl 8 true [[]] 77 [7] none (fun r1 => qb r1) [.agg [lj a0.X0, lj a0.Y0]] (F77_ok _ _) (fun r1 => ?_)))
 refine SimI.rv 1 [] (.sp 9 _ ?_ ?_)
 ·refine SimI.rv 5 [] (.cl 15 true [[]] 77 [14] (some (9, true)) (fun r2 => qb r2) [.agg [lj a0.X1, lj a0.Y1]] (F77_ok _ _) (fun r2 => ?_))
  exact SimI.ru 2 [] (.thenN (.ret .fn))
 ·exact SimI.ru 8 [] (.thenN (.ret .fn))
def F51_e : Bool → PV × List Ob := fun r => (.one (lb r), [])
def F51_u24 (n : Nat) (b23 : Bool) : Option Bool :=
  some b23
theorem F51_u24_ok (n : Nat) (a0 : Command) (b23 : Bool) : SimL Tryz.prog D (n + 8) (n + 4) p51c13 (W94 b23) (W2 a0) (F51_u24 n b23) (QB 0 (QT Tryz.prog D (n + 8) p51c19 (QF false pc51_r 0 F51_e))) := by
  unfold F51_u24
  exact SimL.succ (.seq (.seq (.rg (W94 b23) (W2 a0) (.ru 2 [] (.thenN (.cf (.exit (.thenX (.loopX (.blockX (.thenN (.su 2 [] (.ret .fn)))))))))))))
def F51_u21 (n : Nat) (a0 : Command) (b20 : Bool) : Option Bool :=
  if b20 then
   (F79 n a0.F.a3).bind fun (r22 : Bool) =>
   F51_u24 n r22
  else
   F51_u24 n false
theorem F51_u21_ok (n : Nat) (a0 : Command) (b20 : Bool) : SimL Tryz.prog D (n + 8) (n + 5) p51c13 (W95 b20) (W2 a0) (F51_u21 n a0 b20) (QB 0 (QT Tryz.prog D (n + 8) p51c19 (QF false pc51_r 0 F51_e))) := by
  unfold F51_u21
  refine SimL.succ (.seq (.seq (.rg (W95 b20) (W2 a0) (.ru 2 [] (.thenN (.ct (.skip (.thenN (.seq (.block (.region0 (.rv 2 [] (.sp 59 _ ?_ ?_)))))))))))))
  ·refine SimI.rv 4 [] (.cl 64 true [[]] 79 [63] (some (59, true)) (fun r22 => qb r22) [.agg [lj a0.F.a3.N, ls a0.F.a3.Text]] (F79_ok _ _) (fun r22 => ?_))
   refine SimI.ru 2 [] (.blockN (.thenN (.region0 (.ru 3 [] (.loopN (.pr [1, 3, 4] [1] [] (W94 r22) (W2 a0) ?_))))))
   exact F51_u24_ok n a0 r22
  ·refine SimI.ru 7 [] (.blockN (.thenN (.region0 (.ru 3 [] (.loopN (.pr [1, 3, 4] [1] [] [(1, qp 1 0), (3, qb false), (4, qj 4)] (W2 a0) ?_))))))
   exact F51_u24_ok n a0 false
def F51_u18 (n : Nat) (a0 : Command) (b17 : Bool) : Option Bool :=
  if b17 then
   (F79 n a0.F.a2).bind fun (r19 : Bool) =>
   F51_u21 n a0 r19
  else
   F51_u21 n a0 false
theorem F51_u18_ok (n : Nat) (a0 : Command) (b17 : Bool) : SimL Tryz.prog D (n + 8) (n + 6) p51c13 (W96 b17) (W2 a0) (F51_u18 n a0 b17) (QB 0 (QT Tryz.prog D (n + 8) p51c19 (QF false pc51_r 0 F51_e))) := by
  unfold F51_u18
  refine SimL.succ (.seq (.seq (.rg (W96 b17) (W2 a0) (.ru 2 [] (.thenN (.ct (.skip (.thenN (.seq (.block (.region0 (.rv 2 [] (.sp 59 _ ?_ ?_)))))))))))))
  ·refine SimI.rv 4 [] (.cl 64 true [[]] 79 [63] (some (59, true)) (fun r19 => qb r19) [.agg [lj a0.F.a2.N, ls a0.F.a2.Text]] (F79_ok _ _) (fun r19 => ?_))
   refine SimI.ru 2 [] (.blockN (.thenN (.region0 (.ru 3 [] (.loopN (.pr [1, 3, 4] [1] [] (W95 r19) (W2 a0) ?_))))))
   exact F51_u21_ok n a0 r19
  ·refine SimI.ru 7 [] (.blockN (.thenN (.region0 (.ru 3 [] (.loopN (.pr [1, 3, 4] [1] [] [(1, qp 1 0), (3, qb false), (4, qj 3)] (W2 a0) ?_))))))
   exact F51_u21_ok n a0 false
def F51_u15 (n : Nat) (a0 : Command) (b14 : Bool) : Option Bool :=
  if b14 then
   (F79 n a0.F.a1).bind fun (r16 : Bool) =>
   F51_u18 n a0 r16
  else
   F51_u18 n a0 false
theorem F51_u15_ok (n : Nat) (a0 : Command) (b14 : Bool) : SimL Tryz.prog D (n + 8) (n + 7) p51c13 (W97 b14) (W2 a0) (F51_u15 n a0 b14) (QB 0 (QT Tryz.prog D (n + 8) p51c19 (QF false pc51_r 0 F51_e))) := by
  unfold F51_u15
  refine SimL.succ (.seq (.seq (.rg (W97 b14) (W2 a0) (.ru 2 [] (.thenN (.ct (.skip (.thenN (.seq (.block (.region0 (.rv 2 [] (.sp 59 _ ?_ ?_)))))))))))))
  ·refine SimI.rv 4 [] (.cl 64 true [[]] 79 [63] (some (59, true)) (fun r16 => qb r16) [.agg [lj a0.F.a1.N, ls a0.F.a1.Text]] (F79_ok _ _) (fun r16 => ?_))
   refine SimI.ru 2 [] (.blockN (.thenN (.region0 (.ru 3 [] (.loopN (.pr [1, 3, 4] [1] [] (W96 r16) (W2 a0) ?_))))))
   exact F51_u18_ok n a0 r16
  ·refine SimI.ru 7 [] (.blockN (.thenN (.region0 (.ru 3 [] (.loopN (.pr [1, 3, 4] [1] [] [(1, qp 1 0), (3, qb false), (4, qj 2)] (W2 a0) ?_))))))
   exact F51_u18_ok n a0 false
def F51_j12 (n : Nat) (a0 : Command) (b11 : Bool) : Option Bool :=
  if b11 then
   (F79 n a0.F.a0).bind fun (r13 : Bool) =>
   F51_u15 n a0 r13
  else
   F51_u15 n a0 false
theorem F51_j12_ok (n : Nat) (a0 : Command) (b11 : Bool) : Sim Tryz.prog D (n + 8) p51c20 [(1, qp 1 0), (3, qb b11)] (W2 a0) (F51_j12 n a0 b11) (QF false pc51_r 0 F51_e) := by
  unfold F51_j12
  refine Sim.seq (.seq (.rs (.ru 1 [] (.thenN (.block (.loop (.succ (.seq (.seq (.rg [(1, qp 1 0), (3, qb b11), (4, qj 0)] (W2 a0) (.ru 2 [] (.thenN (.ct (.skip (.thenN (.seq (.block (.region0 (.rv 2 [] (.sp 59 _ ?_ ?_))))))))))))))))))))
  ·refine SimI.rv 4 [] (.cl 64 true [[]] 79 [63] (some (59, true)) (fun r13 => qb r13) [.agg [lj a0.F.a0.N, ls a0.F.a0.Text]] (F79_ok _ _) (fun r13 => ?_))
   refine SimI.ru 2 [] (.blockN (.thenN (.region0 (.ru 3 [] (.loopN (.pr [1, 3, 4] [1] [] (W97 r13) (W2 a0) ?_))))))
   exact F51_u15_ok n a0 r13
  ·refine SimI.ru 7 [] (.blockN (.thenN (.region0 (.ru 3 [] (.loopN (.pr [1, 3, 4] [1] [] [(1, qp 1 0), (3, qb false), (4, qj 1)] (W2 a0) ?_))))))
   exact F51_u15_ok n a0 false
def F51 (n : Nat) (a0 : Command) : Option Bool :=
 (F75 n a0.Kind 1 8).bind fun (r1 : Bool) =>
 if r1 then
  (F75 n a0.Client 0 3).bind fun (r2 : Bool) =>
  if r2 then
   (F75 n a0.Session 0 1000000).bind fun (r3 : Bool) =>
   if r3 then
    (F76 n a0).bind fun (r4 : Command) =>
    if Command.eqb a0 r4 then
     (F77 n a0.At).bind fun (r5 : Bool) =>
     if r5 then
      (F78 n a0.Rect).bind fun (r6 : Bool) =>
      if r6 then
       (F75 n a0.ID 0 1000000).bind fun (r7 : Bool) =>
       if r7 then
        (F75 n a0.Which (-1) 100).bind fun (r8 : Bool) =>
        if r8 then
         (F75 n a0.To (-1) 100).bind fun (r9 : Bool) =>
         if r9 then
          (F79 n a0.Value).bind fun (r10 : Bool) =>
          F51_j12 n a0 r10
         else
          F51_j12 n a0 false
        else
         F51_j12 n a0 false
       else
        F51_j12 n a0 false
      else
       F51_j12 n a0 false
     else
      F51_j12 n a0 false
    else
     F51_j12 n a0 false
   else
    F51_j12 n a0 false
  else
   F51_j12 n a0 false
 else
  F51_j12 n a0 false
theorem F51_ok (n : Nat) (a0 : Command) : ∀ r, F51 n a0 = some r → D 51 [.agg (Command.cells a0)] [] = some (F51_e r) := by
 refine fn_to (D := D) (n := n + 8) (nt := 67) (rs := pc51_r) (c := p51c22) (L := (W79 a0)) (M := []) (k := 0) rfl rfl rfl rfl rfl rfl rfl ?_
 unfold F51
 refine Sim.su 2 (W2 a0) (.sv 2 [] (.cm 7 false [[], [], []] 75 [6, kk 1, kk 8] none [(6, .imm)] (F75_ok _ _ _ _) (fun r1 => ?_)))
 refine SimI.rv 1 [] (.sp 8 _ ?_ ?_)
 ·refine SimI.rv 2 [] (.cm 11 false [[], [], []] 75 [10, kk 0, kk 3] (some (8, true)) [(10, .imm)] (F75_ok _ _ _ _) (fun r2 => ?_))
  refine SimI.rv 2 [] (.sp 13 _ ?_ ?_)
  ·refine SimI.rv 2 [] (.cm 16 false [[], [], []] 75 [15, kk 0, kk 1000000] (some (13, true)) [(15, .imm)] (F75_ok _ _ _ _) (fun r3 => ?_))
   refine SimI.rv 2 [] (.sp 18 _ ?_ ?_)
   ·refine SimI.rv 2 [] (.cm 21 false [[]] 76 [20] (some (18, true)) [(20, .imm)] (F76_ok _ _) (fun r4 => ?_))
    refine SimI.se ⟨some 22, .prim (.bin .eql 56 false false) [19, 21], some (18, true), [(19, .imm), (21, .imm)]⟩ [(22, qb (Command.eqb a0 r4))] [] (pe (ep (Command_eql a0 r4 _ _))) (.rv 2 [] (.sp 24 _ ?_ ?_))
    ·refine SimI.rv 2 [] (.cm 27 false [[]] 77 [26] (some (24, true)) [(26, .imm)] (F77_ok _ _) (fun r5 => ?_))
     refine SimI.rv 2 [] (.sp 29 _ ?_ ?_)
     ·refine SimI.rv 2 [] (.cm 32 false [[]] 78 [31] (some (29, true)) [(31, .imm)] (F78_ok _ _) (fun r6 => ?_))
      refine SimI.rv 2 [] (.sp 34 _ ?_ ?_)
      ·refine SimI.rv 2 [] (.cm 37 false [[], [], []] 75 [36, kk 0, kk 1000000] (some (34, true)) [(36, .imm)] (F75_ok _ _ _ _) (fun r7 => ?_))
       refine SimI.rv 2 [] (.sp 39 _ ?_ ?_)
       ·refine SimI.rv 2 [] (.cm 42 false [[], [], []] 75 [41, Operand.const (Value.int IntKind.i64 (-1)), kk 100] (some (39, true)) [(41, .imm)] (F75_ok _ _ _ _) (fun r8 => ?_))
        refine SimI.rv 2 [] (.sp 44 _ ?_ ?_)
        ·refine SimI.rv 2 [] (.cm 47 false [[], [], []] 75 [46, Operand.const (Value.int IntKind.i64 (-1)), kk 100] (some (44, true)) [(46, .imm)] (F75_ok _ _ _ _) (fun r9 => ?_))
         refine SimI.rv 2 [] (.sp 49 _ ?_ ?_)
         ·refine SimI.rv 2 [] (.cm 52 false [[]] 79 [51] (some (49, true)) [(51, .imm)] (F79_ok _ _) (fun r10 => ?_))
          refine SimI.ru 2 [] (.thenN (.pr [1, 3] [1] [] [(1, qp 1 0), (3, qb r10)] (W2 a0) ?_))
          exact F51_j12_ok n a0 r10
         ·refine SimI.ru 5 [] (.thenN (.pr [1, 3] [1] [] W55 (W2 a0) ?_))
          exact F51_j12_ok n a0 false
        ·refine SimI.ru 10 [] (.thenN (.pr [1, 3] [1] [] W55 (W2 a0) ?_))
         exact F51_j12_ok n a0 false
       ·refine SimI.ru 15 [] (.thenN (.pr [1, 3] [1] [] W55 (W2 a0) ?_))
        exact F51_j12_ok n a0 false
      ·refine SimI.ru 20 [] (.thenN (.pr [1, 3] [1] [] W55 (W2 a0) ?_))
       exact F51_j12_ok n a0 false
     ·refine SimI.ru 25 [] (.thenN (.pr [1, 3] [1] [] W55 (W2 a0) ?_))
      exact F51_j12_ok n a0 false
    ·refine SimI.ru 30 [] (.thenN (.pr [1, 3] [1] [] W55 (W2 a0) ?_))
     exact F51_j12_ok n a0 false
   ·refine SimI.ru 36 [] (.thenN (.pr [1, 3] [1] [] W55 (W2 a0) ?_))
    exact F51_j12_ok n a0 false
  ·refine SimI.ru 41 [] (.thenN (.pr [1, 3] [1] [] W55 (W2 a0) ?_))
   exact F51_j12_ok n a0 false
 ·refine SimI.ru 46 [] (.thenN (.pr [1, 3] [1] [] W55 (W2 a0) ?_))
  exact F51_j12_ok n a0 false
def F52_e : Bool → PV × List Ob := fun r => (.one (lb r), [])
def F52 (n : Nat) (a0 : Command) : Option Bool :=
 (F75 n a0.Kind 6 8).bind fun (r1 : Bool) =>
 some r1
theorem F52_ok (n : Nat) (a0 : Command) : ∀ r, F52 n a0 = some r → D 52 [.agg (Command.cells a0)] [] = some (F52_e r) := by
 refine fn_to (D := D) (n := n + 8) (nt := 6) (rs := pc52_r) (c := p52c5) (L := (W79 a0)) (M := []) (k := 0) rfl rfl rfl rfl rfl rfl rfl ?_
 unfold F52
 refine Sim.su 2 (W2 a0) (.sv 2 [] (.cl 5 true [[], [], []] 75 [4, kk 6, kk 8] none (fun r1 => qb r1) [qj a0.Kind, qj 6, qj 8] (F75_ok _ _ _ _) (fun r1 => ?_)))
 exact SimI.ru 1 [] (.thenN (.ret .fn))
def F81_e : Int → PV × List Ob := fun r => (.one (li .u32 r), [])
def F81_l7 (n : Nat) (a0 a1 : Int) : Nat → Int → Int → Option Int
 | 0, _, _ => none
 | m + 1, i5, i6 =>
  if decide (i6 < 16) then
   if ¬ (IntKind.wrap .u64 i6 < 0) then
    if ¬ (IntKind.wrap .u64 (IntKind.wrap .i64 (2 * i6)) < 0) then
     if ¬ (IntKind.wrap .u64 i6 < 0) then
      if ¬ (IntKind.wrap .u64 (IntKind.wrap .i64 (IntKind.wrap .i64 (2 * i6) + 1)) < 0) then
       (F81_l7 n a0 a1 m) (bitsI .or .u32 (bitsI .or .u32 i5 (shlI .u32 (IntKind.wrap .u32 (bitsI .and .u16 (shrI .u16 a0 (IntKind.wrap .u64 i6)) 1)) (IntKind.wrap .u64 (IntKind.wrap .i64 (2 * i6))))) (shlI .u32 (IntKind.wrap .u32 (bitsI .and .u16 (shrI .u16 a1 (IntKind.wrap .u64 i6)) 1)) (IntKind.wrap .u64 (IntKind.wrap .i64 (IntKind.wrap .i64 (2 * i6) + 1))))) (IntKind.wrap .i64 (i6 + 1))
      else none
     else none
    else none
   else none
  else
   some i5
theorem F81_l7_ok (n : Nat) (a0 a1 : Int) : ∀ (m : Nat) (i5 i6 : Int), SimL Tryz.prog D (n + 8) m p81c13 [(0, .one (li .u16 a0)), (1, .one (li .u16 a1)), (5, .one (li .u32 i5)), (6, qj i6)] [] (F81_l7 n a0 a1 m i5 i6) (QB 0 (QT Tryz.prog D (n + 8) p81c19 (QF false pc81_r 0 F81_e))) := by
 intro m_l7
 induction m_l7 with
 | zero => intro i5 i6; exact SimL.zero'  rfl
 | succ m_l7 ih_l7 =>
  intro i5 i6
  refine SimL.succ ?_
  unfold F81_l7
  refine Sim.seq (.seq (.rg [(0, .one (li .u16 a0)), (1, .one (li .u16 a1)), (5, .one (li .u32 i5)), (6, qj i6)] [] (.ru 2 [] (.thenN (.cd _ ?_ ?_)))))
  ·refine Sim.skip (.thenN (.seq (.block (.region0 (.rv 4 [] (.gp 15 (.bin .shr 27 false false) [12, 14] none [] (fun hc => pr_shr _ _ _ .u16 .u64 a0 (iw .u64 i6) hc) (.rv 5 [] (.gp 21 (.bin .shl 72 false false) [17, 20] none [] (fun hc => pr_shl _ _ _ .u32 .u64 (iw .u32 (bitsI .and .u16 (shrI .u16 a0 (iw .u64 i6)) 1)) (iw .u64 (iw .i64 (2 * i6))) hc) (.rv 4 [] (.gp 26 (.bin .shr 27 false false) [23, 25] none [] (fun hc => pr_shr _ _ _ .u16 .u64 a1 (iw .u64 i6) hc) (.rv 6 [] (.gp 33 (.bin .shl 72 false false) [28, 32] none [] (fun hc => pr_shl _ _ _ .u32 .u64 (iw .u32 (bitsI .and .u16 (shrI .u16 a1 (iw .u64 i6)) 1)) (iw .u64 (iw .i64 (iw .i64 (2 * i6) + 1))) hc) (.ru 2 [] (.blockN (.thenN (.region0 (.ru 3 [] (.loopN (.pr [0, 1, 5, 6] [] [] [(0, .one (li .u16 a0)), (1, .one (li .u16 a1)), (5, .one (li .u32 (bitsI .or .u32 (bitsI .or .u32 i5 (shlI .u32 (iw .u32 (bitsI .and .u16 (shrI .u16 a0 (iw .u64 i6)) 1)) (iw .u64 (iw .i64 (2 * i6))))) (shlI .u32 (iw .u32 (bitsI .and .u16 (shrI .u16 a1 (iw .u64 i6)) 1)) (iw .u64 (iw .i64 (iw .i64 (2 * i6) + 1))))))), (6, qj (iw .i64 (i6 + 1)))] [] ?_)))))))))))))))))))
   exact ih_l7 (bitsI .or .u32 (bitsI .or .u32 i5 (shlI .u32 (iw .u32 (bitsI .and .u16 (shrI .u16 a0 (iw .u64 i6)) 1)) (iw .u64 (iw .i64 (2 * i6))))) (shlI .u32 (iw .u32 (bitsI .and .u16 (shrI .u16 a1 (iw .u64 i6)) 1)) (iw .u64 (iw .i64 (iw .i64 (2 * i6) + 1))))) (iw .i64 (i6 + 1))
  ·exact Sim.exit (.thenX (.loopX (.blockX (.thenN (.su 2 [] (.ret .fn))))))
def F81 (n : Nat) (a0 a1 : Int) : Option Int :=
 F81_l7 n a0 a1 (n + 8) 0 0
theorem F81_ok (n : Nat) (a0 a1 : Int) : ∀ r, F81 n a0 a1 = some r → D 81 [.one (li .u16 a0), .one (li .u16 a1)] [] = some (F81_e r) := by
 refine fn_to (D := D) (n := n + 8) (nt := 36) (rs := pc81_r) (c := p81c22) (L := [(0, .one (li .u16 a0)), (1, .one (li .u16 a1))]) (M := []) (k := 0) rfl rfl rfl rfl rfl rfl rfl ?_
 unfold F81
 refine Sim.su 1 [] (.su 1 [] (.seq (.su 1 [] (.block (.loop (.pr [0, 1, 5, 6] [] [] [(0, .one (li .u16 a0)), (1, .one (li .u16 a1)), (5, .one (li .u32 0)), (6, qj 0)] [] ?_))))))
 exact F81_l7_ok n a0 a1 (n + 8) 0 0
def F53_e : (Int × Int) → PV × List Ob := fun r => (.tup [.one (li .i64 r.1), .one (li .i64 r.2)], [])
def F53 (n : Nat) (a0 : Point) : Option (Int × Int) :=
 (F80 n a0).bind fun (r1 : Bool) =>
 if !(r1) then
  some (0, 14)
 else
  (F81 n (IntKind.wrap .u16 (IntKind.wrap .i64 (Int.tdiv a0.X 16))) (IntKind.wrap .u16 (IntKind.wrap .i64 (Int.tdiv a0.Y 16)))).bind fun (r2 : Int) =>
  some (IntKind.wrap .i64 r2, 0)
theorem F53_ok (n : Nat) (a0 : Point) : ∀ r, F53 n a0 = some r → D 53 [.agg [li .i64 a0.X, li .i64 a0.Y]] [] = some (F53_e r) := by
 refine fn_to (D := D) (n := n + 8) (nt := 17) (rs := pc53_r) (c := p53c13) (L := [(0, .agg [lj a0.X, lj a0.Y])]) (M := []) (k := 0) rfl rfl rfl rfl rfl rfl rfl ?_
 unfold F53
 refine Sim.su 3 (W105 a0) (.seq (.sv 1 [] (.cl 5 true [[]] 80 [4] none (fun r1 => qb r1) [.agg [lj a0.X, lj a0.Y]] (F80_ok _ _) (fun r1 => ?_))))
 refine SimI.ru 1 [] (.thenN (.cd _ ?_ ?_))
 ·exact Sim.su 2 [] (.ret (.thenR .fn))
 ·refine Sim.skip (.thenN (.sv 8 [] (.cl 15 true [[], []] 81 [10, 14] none (fun r2 => .one (li .u32 r2)) [.one (li .u16 (iw .u16 (iw .i64 (Int.tdiv a0.X 16)))), .one (li .u16 (iw .u16 (iw .i64 (Int.tdiv a0.Y 16))))] (F81_ok _ _ _) (fun r2 => ?_))))
  exact SimI.ru 3 [] (.thenN (.ret .fn))
def F54_e : Bool → PV × List Ob := fun r => (.one (lb r), [])
def F54_l4 (n : Nat) (a0 : (List Hand)) (a1 : Int) : Nat → Int → Option Bool
 | 0, _ => none
 | m + 1, i3 =>
  if decide (i3 < ((a0).length : Int)) then
   (ix a0 i3).bind fun (x5 : Hand) =>
   if x5.Cell == a1 then
    some true
   else
    (F54_l4 n a0 a1 m) (IntKind.wrap .i64 (i3 + 1))
  else
   some false
theorem F54_l4_ok (n : Nat) (a0 : (List Hand)) (a1 : Int) : ∀ (m : Nat) (i3 : Int), SimL Tryz.prog D (n + 8) m p54c18 [(0, .one (vw Hand.cod a0)), (1, qj a1), (5, qj i3)] [] (F54_l4 n a0 a1 m i3) (QB 0 (QT Tryz.prog D (n + 8) p54c24 (QF false pc54_r 0 F54_e))) := by
 intro m_l4
 induction m_l4 with
 | zero => intro i3; exact SimL.zero'  rfl
 | succ m_l4 ih_l4 =>
  intro i3
  refine SimL.succ ?_
  unfold F54_l4
  refine Sim.seq (.seq (.rg [(0, .one (vw Hand.cod a0)), (1, qj a1), (5, qj i3)] [] (.ru 4 [] (.thenN (.cd _ ?_ ?_)))))
  ·refine Sim.skip (.thenN (.seq (.block (.sv 2 [] (.bn ⟨some 14, .iaddrS 2 12 13, none, []⟩ (fun x5 => [(14, .one (.eptr (Hand.cod.enc x5) 0))]) (fun x5 => []) (fun x5 hr => pe (ei (c := Hand.cod) (k := .i64) hr)) (fun x5 => ?_))))))
   refine SimI.ru 4 [] (.thenN (.cd _ ?_ ?_))
   ·exact Sim.su 1 [] (.ret (.blockR (.thenR (.loopR (.blockR (.thenR .fn))))))
   ·refine Sim.skip (.blockN (.thenN (.region0 (.ru 3 [] (.loopN (.pr [0, 1, 5] [] [] [(0, .one (vw Hand.cod a0)), (1, qj a1), (5, qj (iw .i64 (i3 + 1)))] [] ?_))))))
    exact ih_l4 (iw .i64 (i3 + 1))
  ·exact Sim.exit (.thenX (.loopX (.blockX (.thenN (.su 1 [] (.ret .fn))))))
def F54 (n : Nat) (a0 : (List Hand)) (a1 : Int) : Option Bool :=
 F54_l4 n a0 a1 (n + 8) 0
theorem F54_ok (n : Nat) (a0 : (List Hand)) (a1 : Int) : ∀ r, F54 n a0 a1 = some r → D 54 [.one (vw Hand.cod a0), .one (li .i64 a1)] [] = some (F54_e r) := by
 refine fn_to (D := D) (n := n + 8) (nt := 19) (rs := pc54_r) (c := p54c26) (L := [(0, .one (vw Hand.cod a0)), (1, qj a1)]) (M := []) (k := 0) rfl rfl rfl rfl rfl rfl rfl ?_
 unfold F54
 refine Sim.su 1 [] (.seq (.su 1 [] (.block (.loop (.pr [0, 1, 5] [] [] [(0, .one (vw Hand.cod a0)), (1, qj a1), (5, qj 0)] [] ?_)))))
 exact F54_l4_ok n a0 a1 (n + 8) 0
def F24_e : Bool → PV × List Ob := fun r => (.one (lb r), [])
def F24_l28 (n : Nat) (a0 : Note) : Nat → Int → Option Bool
 | 0, _ => none
 | m + 1, i27 =>
  if decide (i27 < ((a0.Moved).length : Int)) then
   (ix a0.Moved i27).bind fun (x29 : Thing) =>
   (F53 n x29.At).bind fun (r30 : (Int × Int)) =>
   (F54 n a0.Hands r30.1).bind fun (r31 : Bool) =>
   if r31 then
    some false
   else
    (F24_l28 n a0 m) (IntKind.wrap .i64 (i27 + 1))
  else
   some true
theorem F24_l28_ok (n : Nat) (a0 : Note) : ∀ (m : Nat) (i27 : Int), SimL Tryz.prog D (n + 8) m p24c92 [(2, qp 2 0), (12, qj i27)] [(2, some (.cells (W7 a0)))] (F24_l28 n a0 m i27) (QB 6 (QT Tryz.prog D (n + 8) p24c98 (QF false pc24_r 0 F24_e))) := by
 intro m_l28
 induction m_l28 with
 | zero => intro i27; exact SimL.zero'  rfl
 | succ m_l28 ih_l28 =>
  intro i27
  refine SimL.succ ?_
  unfold F24_l28
  refine Sim.seq (.seq (.rg [(2, qp 2 0), (12, qj i27)] [(2, some (.cells (w0 a0)))] (.ru 5 [] (.thenN (.cd _ ?_ ?_)))))
  ·refine Sim.skip (.thenN (.seq (.block (.sv 3 [] (.bn ⟨some 166, .iaddrS 11 164 165, none, []⟩ (fun x29 => [(166, .one (.eptr (Thing.cod.enc x29) 0))]) (fun x29 => []) (fun x29 hr => pe (ei (c := Thing.cod) (k := .i64) hr)) (fun x29 => ?_))))))
   refine SimI.rv 2 [] (.cl 169 true [[]] 53 [168] none (fun r30 => .tup [qj r30.1, qj r30.2]) (W119 x29) (F53_ok _ _) (fun r30 => ?_))
   refine SimI.ru 5 [] (.thenN (.sv 3 [] (.cl 175 true [[(0, 2)], []] 54 [173, 174] none (fun r31 => qb r31) [.one (vw Hand.cod a0.Hands), qj r30.1] (F54_ok _ _ _) (fun r31 => ?_))))
   refine SimI.dn (.thenN (.cd _ ?_ ?_))
   ·exact Sim.su 1 [] (.ret (.blockR (.thenR (.loopR (.blockR (.thenR .fn))))))
   ·refine Sim.skip (.blockN (.thenN (.region0 (.ru 3 [] (.loopN (.pr [2, 12] [2] [] [(2, qp 2 0), (12, qj (iw .i64 (i27 + 1)))] [(2, some (.cells (w0 a0)))] ?_))))))
    exact ih_l28 (iw .i64 (i27 + 1))
  ·exact Sim.exit (.thenX (.loopX (.blockX (.thenN (.su 1 [] (.ret .fn))))))
def F24_l21 (n : Nat) (a0 : Note) : Nat → Int → Option Bool
 | 0, _ => none
 | m + 1, i20 =>
  if decide (i20 < ((a0.Given).length : Int)) then
   (ix a0.Given i20).bind fun (x22 : Thing) =>
   (F53 n x22.At).bind fun (r23 : (Int × Int)) =>
   (F54 n a0.Hands r23.1).bind fun (r24 : Bool) =>
   if !(r24) then
    some false
   else
    (F24_l21 n a0 m) (IntKind.wrap .i64 (i20 + 1))
  else
   F24_l28 n a0 (n + 8) 0
theorem F24_l21_ok (n : Nat) (a0 : Note) : ∀ (m : Nat) (i20 : Int), SimL Tryz.prog D (n + 8) m p24c70 [(2, qp 2 0), (9, qj i20)] [(2, some (.cells (W7 a0)))] (F24_l21 n a0 m i20) (QB 4 (QT Tryz.prog D (n + 8) p24c99 (QF false pc24_r 0 F24_e))) := by
 intro m_l21
 induction m_l21 with
 | zero => intro i20; exact SimL.zero'  rfl
 | succ m_l21 ih_l21 =>
  intro i20
  refine SimL.succ ?_
  unfold F24_l21
  refine Sim.seq (.seq (.rg [(2, qp 2 0), (9, qj i20)] [(2, some (.cells (w0 a0)))] (.ru 5 [] (.thenN (.cd _ ?_ ?_)))))
  ·refine Sim.skip (.thenN (.seq (.block (.sv 3 [] (.bn ⟨some 144, .iaddrS 11 142 143, none, []⟩ (fun x22 => [(144, .one (.eptr (Thing.cod.enc x22) 0))]) (fun x22 => []) (fun x22 hr => pe (ei (c := Thing.cod) (k := .i64) hr)) (fun x22 => ?_))))))
   refine SimI.rv 2 [] (.cl 147 true [[]] 53 [146] none (fun r23 => .tup [qj r23.1, qj r23.2]) (W119 x22) (F53_ok _ _) (fun r23 => ?_))
   refine SimI.ru 5 [] (.thenN (.sv 3 [] (.cl 153 true [[(0, 2)], []] 54 [151, 152] none (fun r24 => qb r24) [.one (vw Hand.cod a0.Hands), qj r23.1] (F54_ok _ _ _) (fun r24 => ?_))))
   refine SimI.ru 1 [] (.thenN (.cd _ ?_ ?_))
   ·exact Sim.su 1 [] (.ret (.blockR (.thenR (.loopR (.blockR (.thenR .fn))))))
   ·refine Sim.skip (.blockN (.thenN (.region0 (.ru 3 [] (.loopN (.pr [2, 9] [2] [] [(2, qp 2 0), (9, qj (iw .i64 (i20 + 1)))] [(2, some (.cells (w0 a0)))] ?_))))))
    exact ih_l21 (iw .i64 (i20 + 1))
  ·refine Sim.exit (.thenX (.loopX (.blockX (.thenN (.seq (.su 1 [] (.block (.loop (.pr [2, 12] [2] [] [(2, qp 2 0), (12, qj 0)] [(2, some (.cells (w0 a0)))] ?_)))))))))
   exact F24_l28_ok n a0 (n + 8) 0
def F24_l13 (n : Nat) (a0 : Note) : Nat → Int → Option Bool
 | 0, _ => none
 | m + 1, i12 =>
  if decide (i12 < ((a0.Watch).length : Int)) then
   (ix a0.Watch i12).bind fun (x14 : Command) =>
   (F51 n x14).bind fun (r15 : Bool) =>
   if !(r15) then
    some false
   else
    (ix a0.Watch i12).bind fun (x16 : Command) =>
    (F52 n x16).bind fun (r17 : Bool) =>
    if !(r17) then
     some false
    else
     (F24_l13 n a0 m) (IntKind.wrap .i64 (i12 + 1))
  else
   F24_l21 n a0 (n + 8) 0
theorem F24_l13_ok (n : Nat) (a0 : Note) : ∀ (m : Nat) (i12 : Int), SimL Tryz.prog D (n + 8) m p24c48 [(2, qp 2 0), (8, qj i12)] [(2, some (.cells (W7 a0)))] (F24_l13 n a0 m i12) (QB 2 (QT Tryz.prog D (n + 8) p24c100 (QF false pc24_r 0 F24_e))) := by
 intro m_l13
 induction m_l13 with
 | zero => intro i12; exact SimL.zero'  rfl
 | succ m_l13 ih_l13 =>
  intro i12
  refine SimL.succ ?_
  unfold F24_l13
  refine Sim.seq (.seq (.rg [(2, qp 2 0), (8, qj i12)] [(2, some (.cells (w0 a0)))] (.ru 5 [] (.thenN (.cd _ ?_ ?_)))))
  ·refine Sim.skip (.thenN (.seq (.block (.sv 3 [] (.bn ⟨some 120, .iaddrS 22 118 119, none, []⟩ (fun x14 => [(120, .one (.eptr (Command.cod.enc x14) 0))]) (fun x14 => []) (fun x14 hr => pe (ei (c := Command.cod) (k := .i64) hr)) (fun x14 => ?_))))))
   refine SimI.rv 1 [] (.cl 122 true [[]] 51 [121] none (fun r15 => qb r15) [.agg (Command.cells x14)] (F51_ok _ _) (fun r15 => ?_))
   refine SimI.rv 2 [] (.sp 124 _ ?_ ?_)
   ·exact SimI.ru 8 [] (.thenN (.ct (.su 1 [] (.ret (.blockR (.thenR (.loopR (.blockR (.thenR .fn)))))))))
   ·refine SimI.rv 3 [] (.bn ⟨some 128, .iaddrS 22 126 127, some (124, false), []⟩ (fun x16 => [(128, .one (.eptr (Command.cod.enc x16) 0))]) (fun x16 => []) (fun x16 hr => pe (ei (c := Command.cod) (k := .i64) hr)) (fun x16 => ?_))
    refine SimI.rv 1 [] (.cl 130 true [[]] 52 [129] (some (124, false)) (fun r17 => qb r17) [.agg (Command.cells x16)] (F52_ok _ _) (fun r17 => ?_))
    refine SimI.ru 2 [] (.thenN (.cd _ ?_ ?_))
    ·exact Sim.su 1 [] (.ret (.blockR (.thenR (.loopR (.blockR (.thenR .fn))))))
    ·refine Sim.skip (.blockN (.thenN (.region0 (.ru 3 [] (.loopN (.pr [2, 8] [2] [] [(2, qp 2 0), (8, qj (iw .i64 (i12 + 1)))] [(2, some (.cells (w0 a0)))] ?_))))))
     exact ih_l13 (iw .i64 (i12 + 1))
  ·refine Sim.exit (.thenX (.loopX (.blockX (.thenN (.seq (.su 1 [] (.block (.loop (.pr [2, 9] [2] [] [(2, qp 2 0), (9, qj 0)] [(2, some (.cells (w0 a0)))] ?_)))))))))
   exact F24_l21_ok n a0 (n + 8) 0
def F24_l6 (n : Nat) (a0 : Note) (a1 : Int) : Nat → Int → Option Bool
 | 0, _ => none
 | m + 1, i5 =>
  if decide (i5 < ((a0.Hands).length : Int)) then
   (ix a0.Hands i5).bind fun (x7 : Hand) =>
   (F50 n x7.Cell).bind fun (r8 : Bool) =>
   if !(r8) then
    some false
   else
    if decide (x7.To < 0) then
     some false
    else
     if decide (imin a1 4 ≤ x7.To) then
      some false
     else
      if x7.To == a0.From then
       some false
      else
       if decide ((0 : Int) < i5) then
        (ix a0.Hands (IntKind.wrap .i64 (i5 - 1))).bind fun (x9 : Hand) =>
        if decide (x7.Cell ≤ x9.Cell) then
         some false
        else
         (F24_l6 n a0 a1 m) (IntKind.wrap .i64 (i5 + 1))
       else
        (F24_l6 n a0 a1 m) (IntKind.wrap .i64 (i5 + 1))
  else
   F24_l13 n a0 (n + 8) 0
theorem F24_l6_ok (n : Nat) (a0 : Note) (a1 : Int) : ∀ (m : Nat) (i5 : Int), SimL Tryz.prog D (n + 8) m p24c28 [(2, qp 2 0), (5, qj (imin a1 4)), (6, qj i5)] [(2, some (.cells (W7 a0)))] (F24_l6 n a0 a1 m i5) (QB 0 (QT Tryz.prog D (n + 8) p24c101 (QF false pc24_r 0 F24_e))) := by
 intro m_l6
 induction m_l6 with
 | zero => intro i5; exact SimL.zero'  rfl
 | succ m_l6 ih_l6 =>
  intro i5
  refine SimL.succ ?_
  unfold F24_l6
  refine Sim.seq (.seq (.rg [(2, qp 2 0), (5, qj (imin a1 4)), (6, qj i5)] [(2, some (.cells (w0 a0)))] (.ru 5 [] (.thenN (.cd _ ?_ ?_)))))
  ·refine Sim.skip (.thenN (.seq (.block (.sv 3 [] (.bn ⟨some 70, .iaddrS 2 68 69, none, []⟩ (fun x7 => [(70, .one (.eptr (Hand.cod.enc x7) 0))]) (fun x7 => []) (fun x7 hr => pe (ei (c := Hand.cod) (k := .i64) hr)) (fun x7 => ?_))))))
   refine SimI.ru 3 [(7, some (.cells [lj x7.Cell, lj x7.To])), (7, some (.cells [lj 0, lj 0]))] (.thenN (.sv 2 [] (.cm 74 false [[]] 50 [73] none [(73, .imm)] (F50_ok _ _) (fun r8 => ?_))))
   refine SimI.rv 2 [] (.sp 76 _ ?_ ?_)
   ·exact SimI.ru 33 [] (.thenN (.ct (.su 1 [] (.ret (.blockR (.thenR (.loopR (.blockR (.thenR .fn)))))))))
   ·refine SimI.rv 5 [] (.sp 81 _ ?_ ?_)
    ·exact SimI.ru 28 [] (.thenN (.ct (.su 1 [] (.ret (.blockR (.thenR (.loopR (.blockR (.thenR .fn)))))))))
    ·refine SimI.rv 6 [] (.sp 87 _ ?_ ?_)
     ·exact SimI.ru 22 [] (.thenN (.ct (.su 1 [] (.ret (.blockR (.thenR (.loopR (.blockR (.thenR .fn)))))))))
     ·refine SimI.rv 7 [] (.sp 94 _ ?_ ?_)
      ·exact SimI.ru 15 [] (.thenN (.ct (.su 1 [] (.ret (.blockR (.thenR (.loopR (.blockR (.thenR .fn)))))))))
      ·refine SimI.rv 3 [] (.sp 97 _ ?_ ?_)
       ·refine SimI.rv 6 [] (.bn ⟨some 104, .iaddrS 2 101 103, some (97, true), [(101, .imm), (103, .imm)]⟩ (fun x9 => [(104, .one (.eptr (Hand.cod.enc x9) 0))]) (fun x9 => []) (fun x9 hr => pe (ei (c := Hand.cod) (k := .i64) hr)) (fun x9 => ?_))
        refine SimI.ru 5 [] (.thenN (.cd _ ?_ ?_))
        ·exact Sim.su 1 [] (.ret (.blockR (.thenR (.loopR (.blockR (.thenR .fn))))))
        ·refine Sim.skip (.blockN (.thenN (.region0 (.ru 3 [] (.loopN (.pr [2, 5, 6] [2, 7] [] [(2, qp 2 0), (5, qj (imin a1 4)), (6, qj (iw .i64 (i5 + 1)))] [(2, some (.cells (w0 a0)))] ?_))))))
         exact ih_l6 (iw .i64 (i5 + 1))
       ·refine SimI.ru 12 [] (.thenN (.cf (.skip (.blockN (.thenN (.region0 (.ru 3 [] (.loopN (.pr [2, 5, 6] [2, 7] [] [(2, qp 2 0), (5, qj (imin a1 4)), (6, qj (iw .i64 (i5 + 1)))] [(2, some (.cells (w0 a0)))] ?_)))))))))
        exact ih_l6 (iw .i64 (i5 + 1))
  ·refine Sim.exit (.thenX (.loopX (.blockX (.thenN (.seq (.su 1 [] (.block (.loop (.pr [2, 8] [2] [] [(2, qp 2 0), (8, qj 0)] [(2, some (.cells (w0 a0)))] ?_)))))))))
   exact F24_l13_ok n a0 (n + 8) 0
def F24 (n : Nat) (a0 : Note) (a1 : Int) : Option Bool :=
 if decide (a0.From < 0) then
  some false
 else
  if decide (imin a1 4 ≤ a0.From) then
   some false
  else
   if decide (a0.Beat < 0) then
    some false
   else
    if decide ((1073741824 : Int) < a0.Beat) then
     some false
    else
     (F49 n a0.Moved).bind fun (r1 : Bool) =>
     if !(r1) then
      some false
     else
      (F49 n a0.Given).bind fun (r2 : Bool) =>
      if !(r2) then
       some false
      else
       if decide ((16 : Int) < ((a0.Hands).length : Int)) then
        some false
       else
        if decide ((20 : Int) < ((a0.Watch).length : Int)) then
         some false
        else
         F24_l6 n a0 a1 (n + 8) 0
theorem F24_ok (n : Nat) (a0 : Note) (a1 : Int) : ∀ r, F24 n a0 a1 = some r → D 24 [.agg [li .i64 a0.From, li .i64 a0.Beat, vw Thing.cod a0.Moved, vw Hand.cod a0.Hands, vw Thing.cod a0.Given, vw Command.cod a0.Watch], .one (li .i64 a1)] [] = some (F24_e r) := by
 refine fn_to (D := D) (n := n + 8) (nt := 176) (rs := pc24_r) (c := p24c105) (L := [(0, .agg (w0 a0)), (1, qj a1)]) (M := []) (k := 0) rfl rfl rfl rfl rfl rfl rfl ?_
 unfold F24
 refine Sim.su 2 [(2, some (.cells (w0 a0)))] (.su 3 [] (.seq (.sv 4 [] (.sp 20 _ ?_ ?_))))
 ·exact SimI.ru 39 [] (.thenN (.ct (.su 1 [] (.ret (.thenR .fn)))))
 ·refine SimI.rv 6 [] (.sp 26 _ ?_ ?_)
  ·exact SimI.ru 33 [] (.thenN (.ct (.su 1 [] (.ret (.thenR .fn)))))
  ·refine SimI.rv 5 [] (.sp 31 _ ?_ ?_)
   ·exact SimI.ru 28 [] (.thenN (.ct (.su 1 [] (.ret (.thenR .fn)))))
   ·refine SimI.rv 5 [] (.sp 36 _ ?_ ?_)
    ·exact SimI.ru 23 [] (.thenN (.ct (.su 1 [] (.ret (.thenR .fn)))))
    ·refine SimI.rv 2 [] (.cl 39 true [[(0, 11)]] 49 [38] (some (36, false)) (fun r1 => qb r1) [.one (vw Thing.cod a0.Moved)] (F49_ok _ _) (fun r1 => ?_))
     refine SimI.rv 3 [] (.sp 42 _ ?_ ?_)
     ·exact SimI.ru 17 [] (.thenN (.ct (.su 1 [] (.ret (.thenR .fn)))))
     ·refine SimI.rv 2 [] (.cl 45 true [[(0, 11)]] 49 [44] (some (42, false)) (fun r2 => qb r2) [.one (vw Thing.cod a0.Given)] (F49_ok _ _) (fun r2 => ?_))
      refine SimI.rv 3 [] (.sp 48 _ ?_ ?_)
      ·exact SimI.ru 11 [] (.thenN (.ct (.su 1 [] (.ret (.thenR .fn)))))
      ·refine SimI.rv 6 [] (.sp 54 _ ?_ ?_)
       ·exact SimI.ru 5 [] (.thenN (.ct (.su 1 [] (.ret (.thenR .fn)))))
       ·refine SimI.ru 5 [] (.thenN (.cd _ ?_ ?_))
        ·exact Sim.su 1 [] (.ret (.thenR .fn))
        ·refine Sim.skip (.thenN (.seq (.su 1 [] (.block (.loop (.pr [2, 5, 6] [2, 7] [] [(2, qp 2 0), (5, qj (imin a1 4)), (6, qj 0)] [(2, some (.cells (w0 a0)))] ?_))))))
         exact F24_l6_ok n a0 a1 (n + 8) 0
def F8_e : Bool → PV × List Ob := fun r => (.one (lb r), [])
def F8_j4 (n : Nat) (r1 : (Note × Int × Int)) (i3 : Int) : Option Bool :=
  if r1.2.2 == i3 then
   if r1.2.1 == 0 then
    (F11 n r1.1 (Note.mk 0 0 ([] : List Thing) ([] : List Hand) ([] : List Thing) ([] : List Command))).bind fun (r5 : Bool) =>
    some r5
   else
    some false
  else
   some false
theorem F8_j4_ok (n : Nat) (r1 : (Note × Int × Int)) (i3 : Int) : Sim Tryz.prog D (n + 8) p8c13 [(3, qp 3 0), (4, qj r1.2.1), (5, qj r1.2.2), (9, qj i3)] [(3, some (.cells (W9 r1)))] (F8_j4 n r1 i3) (QT Tryz.prog D (n + 8) p8c23 (QF false pc8_r 0 F8_e)) := by
  unfold F8_j4
  refine Sim.seq (.rs (.rv 4 [] (.sp 32 _ ?_ ?_)))
  ·refine SimI.rv 4 [] (.sp 36 _ ?_ ?_)
   ·refine SimI.rv 2 [] (.cl 39 true [[(2, 11), (3, 2), (4, 11), (5, 22)], [(2, 11), (3, 2), (4, 11), (5, 22)]] 11 [37, 38] (some (36, true)) (fun r5 => qb r5) [.agg (W9 r1), .agg [lj 0, lj 0, vw Thing.cod ([] : List Thing), vw Hand.cod ([] : List Hand), vw Thing.cod ([] : List Thing), vw Command.cod ([] : List Command)]] (F11_ok _ _ _) (fun r5 => ?_))
    exact SimI.ru 2 [] (.thenN (.ret (.thenR .fn)))
   ·exact SimI.ru 5 [] (.thenN (.ret (.thenR .fn)))
  ·exact SimI.ru 9 [] (.thenN (.ret (.thenR .fn)))
def F8 (n : Nat) (a0 : ByteArray) : Option Bool :=
 (F10 n a0).bind fun (r1 : (Note × Int × Int)) =>
 (F7 n a0).bind fun (r2 : (ByteArray × Int × Int)) =>
 if r1.2.2 != 0 then
  if r2.2.2 == 0 then
   F8_j4 n r1 11
  else
   F8_j4 n r1 r2.2.2
 else
  (F6 n r1.1).bind fun (r6 : (ByteArray × Int)) =>
  if r2.2.2 == 0 then
   if r1.2.1 == r2.2.1 then
    if r6.2 == 0 then
     if 0 ≤ (r1.2.1 : Int) ∧ (r1.2.1 : Int) ≤ (a0.size : Int) then
      if r6.1.toList == (a0.extract 0 r1.2.1.toNat).toList then
       (F24 n r1.1 4).bind fun (r7 : Bool) =>
       some r7
      else
       some false
     else none
    else
     some false
   else
    some false
  else
   some false
theorem F8_ok (n : Nat) (a0 : ByteArray) : ∀ r, F8 n a0 = some r → D 8 [.one (ls a0)] [] = some (F8_e r) := by
 refine fn_to (D := D) (n := n + 8) (nt := 68) (rs := pc8_r) (c := p8c27) (L := [(0, qs a0)]) (M := []) (k := 0) rfl rfl rfl rfl rfl rfl rfl ?_
 unfold F8
 refine Sim.su 1 [] (.sv 1 [] (.cl 14 true [[]] 10 [13] none (fun r1 => .tup [.agg (W9 r1), qj r1.2.1, qj r1.2.2]) [qs a0] (F10_ok _ _) (fun r1 => ?_)))
 refine SimI.ru 8 [(3, some (.cells (W9 r1))), (3, some (.cells W15))] (.thenN (.sv 1 [] (.cl 20 true [[]] 7 [19] none (fun r2 => .tup (W76 r2)) [qs a0] (F7_ok _ _) (fun r2 => ?_))))
 refine SimI.ru 7 [] (.thenN (.seq (.su 2 [] (.cd _ ?_ ?_))))
 ·refine Sim.su 2 [] (.seq (.su 2 [] (.cd _ ?_ ?_)))
  ·refine Sim.region0 (.ru 1 [] (.thenN (.pr [3, 4, 5, 9] [3] [] [(3, qp 3 0), (4, qj r1.2.1), (5, qj r1.2.2), (9, qj 11)] [(3, some (.cells (W9 r1)))] ?_)))
   exact F8_j4_ok n r1 11
  ·refine Sim.skip (.thenN (.pr [3, 4, 5, 9] [3] [] [(3, qp 3 0), (4, qj r1.2.1), (5, qj r1.2.2), (9, qj r2.2.2)] [(3, some (.cells (W9 r1)))] ?_))
   exact F8_j4_ok n r1 r2.2.2
 ·refine Sim.skip (.thenN (.sv 1 [] (.cl 43 true [[(2, 11), (3, 2), (4, 11), (5, 22)]] 6 [42] none (fun r6 => .tup [qs r6.1, qj r6.2]) [.agg (W9 r1)] (F6_ok _ _) (fun r6 => ?_))))
  refine SimI.ru 5 [] (.thenN (.sv 3 [] (.sp 48 _ ?_ ?_)))
  ·refine SimI.rv 5 [] (.sp 53 _ ?_ ?_)
   ·refine SimI.rv 4 [] (.sp 57 _ ?_ ?_)
    ·refine SimI.rv 3 [] (.gp 61 (.slice 9 false true) [59, 60] (some (57, true)) [] (fun hc => pr_cutH (s := a0) (l := .i64) (b := r1.2.1) Tryz.underlying9 hc) (.rv 3 [] (.sp 64 _ ?_ ?_)))
     ·refine SimI.rv 1 [] (.cl 66 true [[(2, 11), (3, 2), (4, 11), (5, 22)], []] 24 [65, kk 4] (some (64, true)) (fun r7 => qb r7) [.agg (W9 r1), qj 4] (F24_ok _ _ _) (fun r7 => ?_))
      exact SimI.ru 2 [] (.thenN (.ret .fn))
     ·exact SimI.ru 4 [] (.thenN (.ret .fn))
    ·exact SimI.ru 11 [] (.thenN (.ret .fn))
   ·exact SimI.ru 15 [] (.thenN (.ret .fn))
  ·exact SimI.ru 20 [] (.thenN (.ret .fn))
def F3_e : Bool → PV × List Ob := fun r => (.one (lb r), [])
def F3_j11 (n : Nat) (a3 : ByteArray) : Option Bool :=
  (F8 n a3).bind fun (r12 : Bool) =>
  if r12 then
   (F9 n a3).bind fun (r13 : ByteArray) =>
   (F8 n r13).bind fun (r14 : Bool) =>
   some r14
  else
   some false
theorem F3_j11_ok (n : Nat) (a3 : ByteArray) : Sim Tryz.prog D (n + 8) p3c48 [(3, qs a3)] [] (F3_j11 n a3) (QF false pc3_r 0 F3_e) := by
  unfold F3_j11
  refine Sim.seq (.rs (.rv 1 [] (.cl 68 true [[]] 8 [67] none (fun r12 => qb r12) [qs a3] (F8_ok _ _) (fun r12 => ?_))))
  refine SimI.rv 1 [] (.sp 69 _ ?_ ?_)
  ·refine SimI.rv 1 [] (.cl 71 true [[]] 9 [70] (some (69, true)) (fun r13 => qs r13) [qs a3] (F9_ok _ _) (fun r13 => ?_))
   refine SimI.cl 72 true [[]] 8 [71] (some (69, true)) _ _ (F8_ok _ _) (fun r14 => ?_)
   exact SimI.ru 2 [] (.thenN (.ret .fn))
  ·exact SimI.ru 5 [] (.thenN (.ret .fn))
def F3_j8 (n : Nat) (a3 : ByteArray) (l7 : (List Int)) : Option Bool :=
  (F9 n (mkStr l7)).bind fun (r9 : ByteArray) =>
  (F8 n r9).bind fun (r10 : Bool) =>
  if !(r10) then
   some false
  else
   F3_j11 n a3
theorem F3_j8_ok (n : Nat) (a3 : ByteArray) (l7 : (List Int)) : Sim Tryz.prog D (n + 8) p3c38 [(3, qs a3), (14, .one (.osl 41 0 0 (l7).length))] [(41, some (.arr 1000000005 (codI .u8).sz 0 (l7).length (getOf (codI .u8) l7)))] (F3_j8 n a3 l7) (QT Tryz.prog D (n + 8) p3c48 (QF false pc3_r 0 F3_e)) := by
  unfold F3_j8
  refine Sim.seq (.rs (.rv 1 [] (.se ⟨some 63, .b2s 62, none, []⟩ [(63, qs (mkStr l7))] [] (pe (eff_b2sO (l := l7) (k := 41) (g := 0) (el := 1000000005) (by kernel_rfl) (by kernel_rfl))) (.cl 64 true [[]] 9 [63] none (fun r9 => qs r9) [qs (mkStr l7)] (F9_ok _ _) (fun r9 => ?_)))))
  refine SimI.cl 65 true [[]] 8 [64] none _ _ (F8_ok _ _) (fun r10 => ?_)
  refine SimI.ru 1 [] (.thenN (.cd _ ?_ ?_))
  ·exact Sim.su 1 [] (.ret (.thenR .fn))
  ·refine Sim.skip (.thenN (.pr [3] [4, 41] [] [(3, qs a3)] [] ?_))
   exact F3_j11_ok n a3
def F3 (n : Nat) (a0 : Note) (a1 a2 : Int) (a3 : ByteArray) : Option Bool :=
 ((some true)).bind fun (r1 : Bool) =>
 if !(r1) then
  some false
 else
  (F5 n a0).bind fun (r2 : Bool) =>
  if !(r2) then
   some true
  else
   if decide ((400 : Int) < (a3.size : Int)) then
    some true
   else
    (F6 n a0).bind fun (r3 : (ByteArray × Int)) =>
    if r3.2 == 0 then
     (F7 n r3.1).bind fun (r4 : (ByteArray × Int × Int)) =>
     if r4.2.2 != 0 then
      some false
     else
      if decide ((0 : Int) < ((bytesL r4.1).length : Int)) then
       if ((bytesL r4.1).length : Int) ≠ 0 then
        if ((bytesL r4.1).length : Int) ≠ 0 then
         (ix (bytesL r4.1) (Int.tmod (IntKind.wrap .i64 a2) ((bytesL r4.1).length : Int))).bind fun (x5 : Int) =>
         (ix (bytesL r4.1) (Int.tmod (IntKind.wrap .i64 a2) ((bytesL r4.1).length : Int))).bind fun (x6 : Int) =>
         F3_j8 n a3 ((bytesL r4.1).set ((Int.tmod (IntKind.wrap .i64 a2) ((bytesL r4.1).length : Int)).toNat) (bitsI .xor .u8 x5 a1))
        else none
       else none
      else
       F3_j8 n a3 (bytesL r4.1)
    else
     F3_j11 n a3
theorem F3_ok (n : Nat) (a0 : Note) (a1 a2 : Int) (a3 : ByteArray) : ∀ r, F3 n a0 a1 a2 a3 = some r → D 3 [.agg [li .i64 a0.From, li .i64 a0.Beat, vw Thing.cod a0.Moved, vw Hand.cod a0.Hands, vw Thing.cod a0.Given, vw Command.cod a0.Watch], .one (li .u8 a1), .one (li .u16 a2), .one (ls a3)] [] = some (F3_e r) := by
 refine fn_to (D := D) (n := n + 8) (nt := 74) (rs := pc3_r) (c := p3c53) (L := [(0, .agg (w0 a0)), (1, .one (li .u8 a1)), (2, .one (li .u16 a2)), (3, qs a3)]) (M := []) (k := 0) rfl rfl rfl rfl rfl rfl rfl ?_
 unfold F3
 refine Sim.su 2 [(4, some (.cells (w0 a0)))] (.seq (.seq (.region0 (.cl 15 true [] 4 [] none (fun r1 => qb r1) [] (F4_ok n) (fun r1 => ?_)))))
 refine SimI.ru 1 [] (.thenN (.cd _ ?_ ?_))
 ·exact Sim.su 1 [] (.ret (.thenR .fn))
 ·refine Sim.skip (.thenN (.seq (.sv 1 [] (.cl 18 true [[(2, 11), (3, 2), (4, 11), (5, 22)]] 5 [17] none (fun r2 => qb r2) [.agg (w0 a0)] (F5_ok _ _) (fun r2 => ?_)))))
  refine SimI.rv 2 [] (.sp 20 _ ?_ ?_)
  ·exact SimI.ru 4 [] (.thenN (.ct (.su 1 [] (.ret (.thenR .fn)))))
  ·refine SimI.ru 4 [] (.thenN (.cd _ ?_ ?_))
   ·exact Sim.su 1 [] (.ret (.thenR .fn))
   ·refine Sim.skip (.thenN (.sv 1 [] (.cl 27 true [[(2, 11), (3, 2), (4, 11), (5, 22)]] 6 [26] none (fun r3 => .tup [qs r3.1, qj r3.2]) [.agg (w0 a0)] (F6_ok _ _) (fun r3 => ?_))))
    refine SimI.ru 5 [] (.thenN (.seq (.su 2 [] (.cd _ ?_ ?_))))
    ·refine Sim.sv 1 [] (.cl 34 true [[]] 7 [33] none (fun r4 => .tup (W76 r4)) [qs r3.1] (F7_ok _ _) (fun r4 => ?_))
     refine SimI.ru 7 [] (.thenN (.seq (.su 2 [] (.cd _ ?_ ?_))))
     ·exact Sim.su 1 [] (.ret (.thenR (.thenR .fn)))
     ·refine Sim.skip (.thenN (.sv 1 [] (.se ⟨some 41, .s2bo 5 40, none, []⟩ [(41, .one (.osl 41 0 0 (bytesL r4.1).length))] [(41, some (.arr 1000000005 (codI .u8).sz 0 (bytesL r4.1).length (getOf (codI .u8) (bytesL r4.1))))] (pe (eff_s2bo (s := r4.1) (el2 := 1000000005) (by kernel_rfl) (by kernel_rfl) (by kernel_rfl) (by kernel_rfl))) (.ru 1 [] (.thenN (.seq (.su 3 [] (.cd _ ?_ ?_))))))))
      ·refine Sim.region0 (.rv 5 [] (.gp 50 (.bin .rem 3 false false) [47, 49] none [(47, .imm), (49, .imm)] (fun hc => pr_rem _ _ _ .i64 (iw .i64 a2) ((bytesL r4.1).length : Int) hc) (.rv 5 [] (.gp 56 (.bin .rem 3 false false) [53, 55] none [(53, .imm), (55, .imm)] (fun hc => pr_rem _ _ _ .i64 (iw .i64 a2) ((bytesL r4.1).length : Int) hc) (.bindh (og := ix (bytesL r4.1) (Int.tmod (iw .i64 a2) ((bytesL r4.1).length : Int))) ⟨some 57, .iaddrS 1 51 56, none, [(51, Hint.obj 41), (56, .imm)]⟩ (fun x5 => [(57, .one (.aptr 41 0 ((Int.tmod (iw .i64 a2) ((bytesL r4.1).length : Int)).toNat) 0))]) (fun x5 => []) (by kernel_rfl) (fun x5 hr => pe (eff_idxO (c := (codI .u8)) (l := bytesL r4.1) (g := 0) (el := 1000000005) (k := .i64) (n := Int.tmod (iw .i64 a2) ((bytesL r4.1).length : Int)) (by kernel_rfl) (by kernel_rfl) (by kernel_rfl) (by kernel_rfl) hr)) (fun x5 hx5 => ?_))))))
       refine SimI.se ⟨some 58, .load false 1 57, none, [(57, Hint.obj 41)]⟩ [(58, .one (li .u8 x5))] [] (pe (eff_loadO (c := (codI .u8)) (a := x5) (l := bytesL r4.1) (key := 41) (g := 0) (el := 1000000005) (off := 0) (i := (Int.tmod (iw .i64 a2) ((bytesL r4.1).length : Int)).toNat) (by kernel_rfl) (by kernel_rfl) (ix_some hx5).2.2.2 (by kernel_rfl))) (.rv 2 [] (.bindh (og := ix (bytesL r4.1) (Int.tmod (iw .i64 a2) ((bytesL r4.1).length : Int))) ⟨some 61, .iaddrS 1 45 50, none, [(45, Hint.obj 41), (50, .imm)]⟩ (fun x6 => [(61, .one (.aptr 41 0 ((Int.tmod (iw .i64 a2) ((bytesL r4.1).length : Int)).toNat) 0))]) (fun x6 => []) (by kernel_rfl) (fun x6 hr => pe (eff_idxO (c := (codI .u8)) (l := bytesL r4.1) (g := 0) (el := 1000000005) (k := .i64) (n := Int.tmod (iw .i64 a2) ((bytesL r4.1).length : Int)) (by kernel_rfl) (by kernel_rfl) (by kernel_rfl) (by kernel_rfl) hr)) (fun x6 hx6 => ?_)))
       refine SimI.se ⟨none, .store 1 61 60, none, [(61, Hint.obj 41), (60, .imm)]⟩ [] (W73 r4 a2 x5 a1) (pOp_eff_ (by kernel_rfl) (by kernel_rfl) (eff_storeO (c := (codI .u8)) (key := 41) (g := 0) (el := 1000000005) (l := bytesL r4.1) (i := (Int.tmod (iw .i64 a2) ((bytesL r4.1).length : Int)).toNat) (b := bitsI .xor .u8 x5 a1) (by kernel_rfl) (by kernel_rfl) (by kernel_rfl) (ix_some hx6).2.2.1 (fun _ => rfl) rfl (by kernel_rfl))) (.slot 14 (.one (.osl 41 0 0 (((bytesL r4.1).set ((Int.tmod (iw .i64 a2) ((bytesL r4.1).length : Int)).toNat) (bitsI .xor .u8 x5 a1))).length)) (Eq.trans (b := PV.one (.osl 41 0 0 (bytesL r4.1).length)) (by kernel_rfl) (congrArg (fun z => PV.one (Lf.osl 41 0 0 z)) List.length_set.symm)) (.dn (.thenN (.pr [3, 14] [4, 41] [] [(3, qs a3), (14, .one (.osl 41 0 0 (((bytesL r4.1).set ((Int.tmod (iw .i64 a2) ((bytesL r4.1).length : Int)).toNat) (bitsI .xor .u8 x5 a1))).length))] (W73 r4 a2 x5 a1) ?_))))
       exact F3_j8_ok n a3 ((bytesL r4.1).set ((Int.tmod (iw .i64 a2) ((bytesL r4.1).length : Int)).toNat) (bitsI .xor .u8 x5 a1))
      ·refine Sim.skip (.thenN (.pr [3, 14] [4, 41] [] [(3, qs a3), (14, .one (.osl 41 0 0 (bytesL r4.1).length))] [(41, some (.arr 1000000005 (codI .u8).sz 0 (bytesL r4.1).length (getOf (codI .u8) (bytesL r4.1))))] ?_))
       exact F3_j8_ok n a3 (bytesL r4.1)
    ·refine Sim.skip (.thenN (.pr [3] [4, 41] [] [(3, qs a3)] [] ?_))
     exact F3_j11_ok n a3
end Go.Proofs.YtpjejnefegdoeaaGreat
