/- No condition. -/
import Derived.Test.YtobeamaaifgllaaEventSpanE
namespace Go.Proofs.Ytobeamaaifgllaa
open Go Go.Rx
set_option maxRecDepth 100000
set_option linter.unusedVariables false
set_option linter.unusedSimpArgs false
set_option linter.unnecessarySimpa false
set_option linter.unnecessarySimpa false
def F67_e : Bool → PV × List Ob := fun r => (.one (lb r), [])
def F67 (n : Nat) (a0 : Point) : Option Bool :=
 if decide ((0 : Int) ≤ a0.X) then
  if decide (a0.X < 64) then
   if decide ((0 : Int) ≤ a0.Y) then
    some (decide (a0.Y < 64))
   else
    some false
  else
   some false
 else
  some false
theorem F67_ok (n : Nat) (a0 : Point) : ∀ r, F67 n a0 = some r → D 67 [.agg [li .i64 a0.X, li .i64 a0.Y]] [] = some (F67_e r) := by
 refine fn_to (D := D) (n := n + 8) (nt := 21) (rs := pc67_r) (c := p67c5) (L := [(0, .agg [lj a0.X, lj a0.Y])]) (M := []) (k := 0) rfl rfl rfl rfl rfl rfl rfl ?_
 unfold F67
 refine Sim.sr 2 W24 [(1, some (.cells [lj a0.X, lj a0.Y]))] (.st 4 (rp [6, 5] (qb (decide ((0 : Int) ≤ a0.X))) ++ [(4, qj a0.X), (3, qp 1 0)]) [] (.sp 6 _ ?_ ?_))
 ·refine SimI.rn 5 (rp [11, 10, 9] (qb (decide (a0.X < 64))) ++ [(8, qj a0.X), (7, qp 1 0)]) [] (.sp 11 _ ?_ ?_)
  ·refine SimI.rn 5 (rp [16, 15, 14] (qb (decide ((0 : Int) ≤ a0.Y))) ++ [(13, qj a0.Y), (12, qp 1 1)]) [] (.sp 16 _ ?_ ?_)
   ·exact SimI.rd 5 (rp [2, 20, 19] (qb (decide (a0.Y < 64))) ++ [(18, qj a0.Y), (17, qp 1 1)]) [] (.thenN (.ret .fn))
   ·exact SimI.rd 5 [(2, qb false), (20, qb false), (19, tz), (18, tz), (17, tz)] [] (.thenN (.ret .fn))
  ·exact SimI.rd 10 [(2, qb false), (20, qb false), (19, tz), (18, tz), (17, tz), (16, qb false), (15, qb false), (14, tz), (13, tz), (12, tz)] [] (.thenN (.ret .fn))
 ·exact SimI.rd 15 [(2, qb false), (20, qb false), (19, tz), (18, tz), (17, tz), (16, qb false), (15, qb false), (14, tz), (13, tz), (12, tz), (11, qb false), (10, qb false), (9, tz), (8, tz), (7, tz)] [] (.thenN (.ret .fn))
def F70_e : Bool → PV × List Ob := fun r => (.one (lb r), [])
def F70 (n : Nat) (a0 : Field) : Option Bool :=
 if a0.N == 0 then
  some (decide ((a0.Text.size : Int) ≤ 12))
 else
  if a0.Text.toList == ByteArray.empty.toList then
   some (decide ((a0.Text.size : Int) ≤ 12))
  else
   some false
theorem F70_ok (n : Nat) (a0 : Field) : ∀ r, F70 n a0 = some r → D 70 [.agg [li .i64 a0.N, ls a0.Text]] [] = some (F70_e r) := by
 refine fn_to (D := D) (n := n + 8) (nt := 17) (rs := pc70_r) (c := p70c5) (L := [(0, .agg [lj a0.N, ls a0.Text])]) (M := []) (k := 0) rfl rfl rfl rfl rfl rfl rfl ?_
 unfold F70
 refine Sim.sr 2 W24 [(1, some (.cells [lj a0.N, ls a0.Text]))] (.st 4 [(6, qb (a0.N == 0)), (5, qb (a0.N == 0)), (4, qj a0.N), (3, qp 1 0)] [] (.sp 6 _ ?_ ?_))
 ·exact SimI.rd 11 (rp [2, 16, 15] (qb (decide ((a0.Text.size : Int) ≤ 12))) ++ [(14, qj (a0.Text.size : Int)), (13, qs a0.Text), (12, qp 1 1), (11, qb true), (10, qb true), (9, tz), (8, tz), (7, tz)]) [] (.thenN (.ret .fn))
 ·refine SimI.rn 5 (rp [11, 10, 9] (qb (a0.Text.toList == be.toList)) ++ [(8, qs a0.Text), (7, qp 1 1)]) [] (.sp 11 _ ?_ ?_)
  ·exact SimI.rd 6 (rp [2, 16, 15] (qb (decide ((a0.Text.size : Int) ≤ 12))) ++ [(14, qj (a0.Text.size : Int)), (13, qs a0.Text), (12, qp 1 1)]) [] (.thenN (.ret .fn))
  ·exact SimI.rd 6 [(2, qb false), (16, qb false), (15, tz), (14, tz), (13, tz), (12, tz)] [] (.thenN (.ret .fn))
def F69_e : Bool → PV × List Ob := fun r => (.one (lb r), [])
def F69 (n : Nat) (a0 : Field) : Option Bool :=
 (F70 n a0).bind fun (r1 : Bool) =>
 some (!(r1))
theorem F69_ok (n : Nat) (a0 : Field) : ∀ r, F69 n a0 = some r → D 69 [.agg [li .i64 a0.N, ls a0.Text]] [] = some (F69_e r) := by
 refine fn_to (D := D) (n := n + 8) (nt := 6) (rs := pc69_r) (c := p69c5) (L := [(0, .agg [lj a0.N, ls a0.Text])]) (M := []) (k := 0) rfl rfl rfl rfl rfl rfl rfl ?_
 unfold F69
 refine Sim.sr 2 W24 [(1, some (.cells [lj a0.N, ls a0.Text]))] (.st 1 [(3, .agg [lj a0.N, ls a0.Text])] [] (.cl 4 true [[]] 70 [3] none (fun r1 => qb r1) [.agg [lj a0.N, ls a0.Text]] (F70_ok _ _) (fun r1 => ?_)))
 exact SimI.rd 2 [(2, qb (!(r1))), (5, qb (!(r1)))] [] (.thenN (.ret .fn))
def F103s0_e (a0 : (List Field)) : Int → PV × List Ob := fun r => (.one (li .i64 r), [])
def F103s0_l4 (n : Nat) (a0 : (List Field)) : Nat → Int → Option Int
 | 0, _ => none
 | m + 1, i3 =>
  if decide (i3 < ((a0).length : Int)) then
   (ix a0 i3).bind fun (x5 : Field) =>
   (F69 n x5).bind fun (r6 : Bool) =>
   if r6 then
    some i3
   else
    (F103s0_l4 n a0 m) (IntKind.wrap .i64 (i3 + 1))
  else
   some (-1)
theorem F103s0_l4_ok (n : Nat) (a0 : (List Field)) : ∀ (m : Nat) (i3 : Int), SimL Try.prog D (n + 8) m p103c20 [(0, .one (vw Field.cod a0)), (1, .one (.val (.func (.func 69) #[] #[]))), (7, qj ((a0).length : Int)), (8, qj i3)] [] (F103s0_l4 n a0 m i3) (QB 0 (QT Try.prog D (n + 8) p103c26 (QF false pc103_r 0 (F103s0_e a0)))) := by
 intro m_l4
 induction m_l4 with
 | zero => intro i3; exact SimL.zero'  rfl
 | succ m_l4 ih_l4 =>
  intro i3
  refine SimL.succ ?_
  unfold F103s0_l4
  refine Sim.seq (.rg [(0, .one (vw Field.cod a0)), (1, .one (.val (.func (.func 69) #[] #[]))), (7, qj ((a0).length : Int)), (8, qj i3)] [] (.rd 1 [(9, qb (decide (i3 < ((a0).length : Int))))] [] (.thenN (.seq (.cd _ ?_ ?_)))))
  ·refine Sim.skip (.thenN (.seq (.block (.sr 2 [(5, qj i3), (10, qj i3)] [] (.st 3 [(13, qj i3), (12, .one (vw Field.cod a0)), (11, .one (.val (.func (.func 69) #[] #[])))] [] (.bn ⟨some 14, .iaddrS 2 12 13, none, []⟩ (fun x5 => [(14, .one (.eptr (Field.cod.enc x5) 0))]) (fun x5 => []) (fun x5 hr => pe (ei (c := Field.cod) (k := .i64) hr)) (fun x5 => ?_)))))))
   refine SimI.rn 1 [(15, .agg [lj x5.N, ls x5.Text])] [] (.bn ⟨some 16, .callv true [[]] 11 [15], none, []⟩ (fun r6 => [(16, qb r6)]) (fun r6 => []) (fun r6 hr => pe (eff_callvv (by kernel_rfl) (ARGS := [.agg [lj x5.N, ls x5.Text]]) (by kernel_rfl) (args_clean (by kernel_rfl) args_nil) (F69_ok _ _ _ hr) (by kernel_rfl))) (fun r6 => ?_))
   refine SimI.dn (.thenN (.cd _ ?_ ?_))
   ·exact Sim.sr 2 [(4, qj i3), (17, qj i3)] [] (.ret (.blockR (.thenR (.loopR (.blockR (.thenR .fn))))))
   ·refine Sim.skip (.blockN (.thenN (.region0 (.rd 2 (rp [8, 18] (qj (iw .i64 (i3 + 1)))) [] (.loopN (.pr [0, 1, 7, 8] [] [] [(0, .one (vw Field.cod a0)), (1, .one (.val (.func (.func 69) #[] #[]))), (7, qj ((a0).length : Int)), (8, qj (iw .i64 (i3 + 1)))] [] ?_))))))
    exact ih_l4 (iw .i64 (i3 + 1))
  ·exact Sim.exit (.thenX (.loopX (.blockX (.thenN (.sr 1 [(4, qj (-1))] [] (.ret .fn))))))
def F103s0 (n : Nat) (a0 : (List Field)) : Option Int :=
 F103s0_l4 n a0 (n + 8) 0
theorem F103s0_ok (n : Nat) (a0 : (List Field)) : ∀ r, F103s0 n a0 = some r → D 103 [.one (vw Field.cod a0), .one (.val (.func (.func 69) #[] #[]))] [] = some ((F103s0_e a0) r) := by
 refine fn_to (D := D) (n := n + 8) (nt := 19) (rs := pc103_r) (c := p103c28) (L := [(0, .one (vw Field.cod a0)), (1, .one (.val (.func (.func 69) #[] #[])))]) (M := []) (k := 0) rfl rfl rfl rfl rfl rfl rfl ?_
 unfold F103s0
 refine Sim.sr 1 [(4, qj 0)] [] (.seq (.sr 3 [(8, qj 0), (7, qj ((a0).length : Int)), (6, .one (vw Field.cod a0))] [] (.block (.loop (.pr [0, 1, 7, 8] [] [] [(0, .one (vw Field.cod a0)), (1, .one (.val (.func (.func 69) #[] #[]))), (7, qj ((a0).length : Int)), (8, qj 0)] [] ?_)))))
 exact F103s0_l4_ok n a0 (n + 8) 0
def F68s0_e (a0 : (List Field)) : Bool → PV × List Ob := fun r => (.one (lb r), [])
def F68s0 (n : Nat) (a0 : (List Field)) : Option Bool :=
 (F103s0 n a0).bind fun (r1 : Int) =>
 some (decide ((0 : Int) ≤ r1))
theorem F68s0_ok (n : Nat) (a0 : (List Field)) : ∀ r, F68s0 n a0 = some r → D 68 [.one (vw Field.cod a0), .one (.val (.func (.func 69) #[] #[]))] [] = some ((F68s0_e a0) r) := by
 refine fn_to (D := D) (n := n + 8) (nt := 9) (rs := pc68_r) (c := p68c5) (L := [(0, .one (vw Field.cod a0)), (1, .one (.val (.func (.func 69) #[] #[])))]) (M := []) (k := 0) rfl rfl rfl rfl rfl rfl rfl ?_
 unfold F68s0
 refine Sim.sr 1 [(4, qb false)] [] (.st 2 [(6, .one (.val (.func (.func 69) #[] #[]))), (5, .one (vw Field.cod a0))] [] (.bn ⟨some 7, .gcall false false W5 [[(0, 2)], []] 103 [5, 6], none, []⟩ (fun r1 => [(7, qj r1)]) (fun r1 => []) (fun r1 hr => pe (gq (ks := []) (ARGS := [.one (vw Field.cod a0), .one (.val (.func (.func 69) #[] #[]))]) (F103s0_ok _ _ _ hr))) (fun r1 => ?_)))
 exact SimI.rd 2 (rp [4, 8] (qb (decide ((0 : Int) ≤ r1)))) [] (.thenN (.ret .fn))
def F24_e : Bool → PV × List Ob := fun r => (.one (lb r), [])
def F24 (n : Nat) (a0 : Thing) : Option Bool :=
 if decide ((0 : Int) ≤ a0.ID) then
  if decide (a0.ID ≤ 1000000) then
   (F67 n a0.At).bind fun (r1 : Bool) =>
   if r1 then
    (F68s0 n [a0.F.a0, a0.F.a1, a0.F.a2, a0.F.a3]).bind fun (r2 : Bool) =>
    some (!(r2))
   else
    some false
  else
   some false
 else
  some false
theorem F24_ok (n : Nat) (a0 : Thing) : ∀ r, F24 n a0 = some r → D 24 [.agg (Thing.cells a0)] [] = some (F24_e r) := by
 refine fn_to (D := D) (n := n + 8) (nt := 22) (rs := pc24_r) (c := p24c5) (L := [(0, .agg (Thing.cells a0))]) (M := []) (k := 0) rfl rfl rfl rfl rfl rfl rfl ?_
 unfold F24
 refine Sim.sr 2 W24 [(1, some (.cells (Thing.cells a0)))] (.st 4 (rp [6, 5] (qb (decide ((0 : Int) ≤ a0.ID))) ++ [(4, qj a0.ID), (3, qp 1 0)]) [] (.sp 6 _ ?_ ?_))
 ·refine SimI.rn 5 (rp [11, 10, 9] (qb (decide (a0.ID ≤ 1000000))) ++ [(8, qj a0.ID), (7, qp 1 0)]) [] (.sp 11 _ ?_ ?_)
  ·refine SimI.rn 2 [(13, .agg [lj a0.At.X, lj a0.At.Y]), (12, qp 1 1)] [] (.cl 14 true [[]] 67 [13] (some (11, true)) (fun r1 => qb r1) [.agg [lj a0.At.X, lj a0.At.Y]] (F67_ok _ _) (fun r1 => ?_))
   refine SimI.rn 2 [(16, qb r1), (15, qb r1)] [] (.sp 16 _ ?_ ?_)
   ·refine SimI.rn 2 [(18, .one (.csl 1 2 3 4)), (17, qp 1 3)] [] (.bn ⟨some 19, .gcall false false [1, 300000, 300001, 300002, 300003, 300004, 300005, 300006, 300007] [[(0, 2)], []] 68 [18, Operand.func 69], some (16, true), []⟩ (fun r2 => [(19, qb r2)]) (fun r2 => []) (fun r2 hr => pe (eff_gcall (ks := []) (rks := [1]) (new := []) (ARGS := [.one (.csl 1 2 3 4), .one (.val (.func (.func 69) #[] #[]))]) (args1 := (W28 a0)) (args2 := (W28 a0)) (os := []) (os' := []) (os1 := []) (res := qb r2) (res1 := qb r2) (r := qb r2) (N := []) (by kernel_rfl) (readA_ow (readA_csl (c := Field.cod) (k := 1) (off := 3) (cs := (Thing.cells a0)) (l := [a0.F.a0, a0.F.a1, a0.F.a2, a0.F.a3]) (by kernel_rfl) (by kernel_rfl) (by kernel_rfl) (by kernel_rfl) (readA_keep (by kernel_rfl) (readA_nil)))) (by kernel_rfl) (by kernel_rfl) (by kernel_rfl) (by kernel_rfl) (F68s0_ok _ _ _ hr) (by kernel_rfl) (by kernel_rfl) (by kernel_rfl) rfl (by kernel_rfl) (by kernel_rfl) (by kernel_rfl))) (fun r2 => ?_))
    exact SimI.rd 3 (rp [2, 21, 20] (qb (!(r2)))) [] (.thenN (.ret .fn))
   ·exact SimI.rd 6 [(2, qb false), (21, qb false), (20, tz), (19, tz), (18, tz), (17, tz)] [] (.thenN (.ret .fn))
  ·exact SimI.rd 11 [(2, qb false), (21, qb false), (20, tz), (19, tz), (18, tz), (17, tz), (16, qb false), (15, qb false), (14, tz), (13, tz), (12, tz)] [] (.thenN (.ret .fn))
 ·exact SimI.rd 16 [(2, qb false), (21, qb false), (20, tz), (19, tz), (18, tz), (17, tz), (16, qb false), (15, qb false), (14, tz), (13, tz), (12, tz), (11, qb false), (10, qb false), (9, tz), (8, tz), (7, tz)] [] (.thenN (.ret .fn))
def F99_e : Bool → PV × List Ob := fun r => (.one (lb r), [])
def F99 (n : Nat) (a0 a1 : Int) : Option Bool :=
 if ¬ (IntKind.wrap .i64 (a1 + 1) < 0) then
  some ((bitsI .and .u8 (shrI .u8 a0 (IntKind.wrap .i64 (a1 + 1))) 1) == 1)
 else none
theorem F99_ok (n : Nat) (a0 a1 : Int) : ∀ r, F99 n a0 a1 = some r → D 99 [.one (li .u8 a0), .one (li .i64 a1)] [] = some (F99_e r) := by
 refine fn_to (D := D) (n := n + 8) (nt := 11) (rs := pc99_r) (c := p99c5) (L := [(0, .one (li .u8 a0)), (1, qj a1)]) (M := []) (k := 0) rfl rfl rfl rfl rfl rfl rfl ?_
 unfold F99
 exact Sim.sr 1 [(4, qb false)] [] (.st 3 [(7, qj (iw .i64 (a1 + 1))), (6, qj a1), (5, .one (li .u8 a0))] [] (.gp 8 (.bin .shr 5 false false) [5, 7] none [] (fun hc => pr_shr _ _ _ .u8 .i64 a0 (iw .i64 (a1 + 1)) hc) (.rd 3 (rp [4, 10] (qb ((bitsI .and .u8 (shrI .u8 a0 (iw .i64 (a1 + 1))) 1) == 1)) ++ [(9, .one (li .u8 (bitsI .and .u8 (shrI .u8 a0 (iw .i64 (a1 + 1))) 1)))]) [] (.thenN (.ret .fn)))))
def F77_e : Bool → PV × List Ob := fun r => (.one (lb r), [])
def F77_u15 (n : Nat) : Option Bool :=
  some true
theorem F77_u15_ok (n : Nat) (a0 : Delta) : SimL Try.prog D (n + 8) (n + 4) p77c34 [(1, qp 1 0), (40, .agg (A4_Field.cells a0.F)), (41, qj 4)] (W3 a0) (F77_u15 n) (QB 0 (QT Try.prog D (n + 8) p77c40 (QF false pc77_r 0 F77_e))) := by
  unfold F77_u15
  exact SimL.succ (.seq (.rg (w0 a0) (W3 a0) (.rd 1 [(42, qb false)] [] (.thenN (.seq (.cf (.exit (.thenX (.loopX (.blockX (.thenN (.sr 1 [(2, qb true)] [] (.ret .fn)))))))))))))
def F77_u12 (n : Nat) (a0 : Delta) : Option Bool :=
  (F70 n a0.F.a3).bind fun (r13 : Bool) =>
  if !(r13) then
   some false
  else
   (F99 n a0.Mask 3).bind fun (r14 : Bool) =>
   if !(r14) then
    if !(Field.eqb a0.F.a3 (Field.mk 0 ByteArray.empty)) then
     some false
    else
     F77_u15 n
   else
    F77_u15 n
theorem F77_u12_ok (n : Nat) (a0 : Delta) : SimL Try.prog D (n + 8) (n + 5) p77c34 [(1, qp 1 0), (40, .agg (A4_Field.cells a0.F)), (41, qj 3)] (W3 a0) (F77_u12 n a0) (QB 0 (QT Try.prog D (n + 8) p77c40 (QF false pc77_r 0 F77_e))) := by
  unfold F77_u12
  refine SimL.succ (.seq (.rg (w1 a0) (W3 a0) (.rd 1 [(42, qb true)] [] (.thenN (.seq (.ct (.skip (.thenN (.seq (.block (.sr 5 [(3, qj 3), (4, qp 4 0), (44, .agg (W14 a0)), (43, qj 3)] [(4, some (.cells (W14 a0))), (4, some (.cells [lj 0, ls be]))] (.st 1 [(45, .agg (W14 a0))] [] (.cl 46 true [[]] 70 [45] none (fun r13 => qb r13) [.agg (W14 a0)] (F70_ok _ _) (fun r13 => ?_))))))))))))))
  refine SimI.rn 2 [(48, qb (!(r13))), (47, qb (!(r13)))] [] (.sp 48 _ ?_ ?_)
  ·exact SimI.rd 11 ([(59, qb true)] ++ rp W25 tz) [] (.thenN (.ct (.sr 1 [(2, qb false)] [] (.ret (.blockR (.thenR (.loopR (.blockR (.thenR .fn)))))))))
  ·refine SimI.rn 3 [(51, qj 3), (50, .one (li .u8 a0.Mask)), (49, qp 1 1)] [] (.cl 52 true [[], []] 99 [50, 51] (some (48, false)) (fun r14 => qb r14) [.one (li .u8 a0.Mask), qj 3] (F99_ok _ _ _) (fun r14 => ?_))
   refine SimI.rn 2 [(54, qb (!(r14))), (53, qb (!(r14)))] [] (.sp 54 _ ?_ ?_)
   ·refine SimI.rn 2 [(56, .agg [lj 0, ls be]), (55, .agg (W14 a0))] [] (.se ⟨some 57, .prim (.bin .neq 25 false false) [55, 56], some (54, true), []⟩ [(57, qb (!(Field.eqb a0.F.a3 (Field.mk 0 be))))] [] (pe (ep (Field_eqn a0.F.a3 (Field.mk 0 be) _ _))) (.rd 2 (rp [59, 58] (qb (!(Field.eqb a0.F.a3 (Field.mk 0 be))))) [] (.thenN (.cd _ ?_ ?_))))
    ·exact Sim.sr 1 [(2, qb false)] [] (.ret (.blockR (.thenR (.loopR (.blockR (.thenR .fn))))))
    ·refine Sim.skip (.blockN (.thenN (.region0 (.rd 2 [(41, qj 4), (60, qj 4)] [] (.loopN (.pr [1, 40, 41] [1, 4] [] (w0 a0) (W3 a0) ?_))))))
     exact F77_u15_ok n a0
   ·refine SimI.rd 5 W12 [] (.thenN (.cf (.skip (.blockN (.thenN (.region0 (.rd 2 [(41, qj 4), (60, qj 4)] [] (.loopN (.pr [1, 40, 41] [1, 4] [] (w0 a0) (W3 a0) ?_)))))))))
    exact F77_u15_ok n a0
def F77_u9 (n : Nat) (a0 : Delta) : Option Bool :=
  (F70 n a0.F.a2).bind fun (r10 : Bool) =>
  if !(r10) then
   some false
  else
   (F99 n a0.Mask 2).bind fun (r11 : Bool) =>
   if !(r11) then
    if !(Field.eqb a0.F.a2 (Field.mk 0 ByteArray.empty)) then
     some false
    else
     F77_u12 n a0
   else
    F77_u12 n a0
theorem F77_u9_ok (n : Nat) (a0 : Delta) : SimL Try.prog D (n + 8) (n + 6) p77c34 [(1, qp 1 0), (40, .agg (A4_Field.cells a0.F)), (41, qj 2)] (W3 a0) (F77_u9 n a0) (QB 0 (QT Try.prog D (n + 8) p77c40 (QF false pc77_r 0 F77_e))) := by
  unfold F77_u9
  refine SimL.succ (.seq (.rg (w2 a0) (W3 a0) (.rd 1 [(42, qb true)] [] (.thenN (.seq (.ct (.skip (.thenN (.seq (.block (.sr 5 [(3, qj 2), (4, qp 4 0), (44, .agg (W15 a0)), (43, qj 2)] [(4, some (.cells (W15 a0))), (4, some (.cells [lj 0, ls be]))] (.st 1 [(45, .agg (W15 a0))] [] (.cl 46 true [[]] 70 [45] none (fun r10 => qb r10) [.agg (W15 a0)] (F70_ok _ _) (fun r10 => ?_))))))))))))))
  refine SimI.rn 2 [(48, qb (!(r10))), (47, qb (!(r10)))] [] (.sp 48 _ ?_ ?_)
  ·exact SimI.rd 11 ([(59, qb true)] ++ rp W25 tz) [] (.thenN (.ct (.sr 1 [(2, qb false)] [] (.ret (.blockR (.thenR (.loopR (.blockR (.thenR .fn)))))))))
  ·refine SimI.rn 3 [(51, qj 2), (50, .one (li .u8 a0.Mask)), (49, qp 1 1)] [] (.cl 52 true [[], []] 99 [50, 51] (some (48, false)) (fun r11 => qb r11) [.one (li .u8 a0.Mask), qj 2] (F99_ok _ _ _) (fun r11 => ?_))
   refine SimI.rn 2 [(54, qb (!(r11))), (53, qb (!(r11)))] [] (.sp 54 _ ?_ ?_)
   ·refine SimI.rn 2 [(56, .agg [lj 0, ls be]), (55, .agg (W15 a0))] [] (.se ⟨some 57, .prim (.bin .neq 25 false false) [55, 56], some (54, true), []⟩ [(57, qb (!(Field.eqb a0.F.a2 (Field.mk 0 be))))] [] (pe (ep (Field_eqn a0.F.a2 (Field.mk 0 be) _ _))) (.rd 2 (rp [59, 58] (qb (!(Field.eqb a0.F.a2 (Field.mk 0 be))))) [] (.thenN (.cd _ ?_ ?_))))
    ·exact Sim.sr 1 [(2, qb false)] [] (.ret (.blockR (.thenR (.loopR (.blockR (.thenR .fn))))))
    ·refine Sim.skip (.blockN (.thenN (.region0 (.rd 2 [(41, qj 3), (60, qj 3)] [] (.loopN (.pr [1, 40, 41] [1, 4] [] (w1 a0) (W3 a0) ?_))))))
     exact F77_u12_ok n a0
   ·refine SimI.rd 5 W12 [] (.thenN (.cf (.skip (.blockN (.thenN (.region0 (.rd 2 [(41, qj 3), (60, qj 3)] [] (.loopN (.pr [1, 40, 41] [1, 4] [] (w1 a0) (W3 a0) ?_)))))))))
    exact F77_u12_ok n a0
def F77_u6 (n : Nat) (a0 : Delta) : Option Bool :=
  (F70 n a0.F.a1).bind fun (r7 : Bool) =>
  if !(r7) then
   some false
  else
   (F99 n a0.Mask 1).bind fun (r8 : Bool) =>
   if !(r8) then
    if !(Field.eqb a0.F.a1 (Field.mk 0 ByteArray.empty)) then
     some false
    else
     F77_u9 n a0
   else
    F77_u9 n a0
theorem F77_u6_ok (n : Nat) (a0 : Delta) : SimL Try.prog D (n + 8) (n + 7) p77c34 [(1, qp 1 0), (40, .agg (A4_Field.cells a0.F)), (41, qj 1)] (W3 a0) (F77_u6 n a0) (QB 0 (QT Try.prog D (n + 8) p77c40 (QF false pc77_r 0 F77_e))) := by
  unfold F77_u6
  refine SimL.succ (.seq (.rg (w3 a0) (W3 a0) (.rd 1 [(42, qb true)] [] (.thenN (.seq (.ct (.skip (.thenN (.seq (.block (.sr 5 [(3, qj 1), (4, qp 4 0), (44, .agg (W16 a0)), (43, qj 1)] [(4, some (.cells (W16 a0))), (4, some (.cells [lj 0, ls be]))] (.st 1 [(45, .agg (W16 a0))] [] (.cl 46 true [[]] 70 [45] none (fun r7 => qb r7) [.agg (W16 a0)] (F70_ok _ _) (fun r7 => ?_))))))))))))))
  refine SimI.rn 2 [(48, qb (!(r7))), (47, qb (!(r7)))] [] (.sp 48 _ ?_ ?_)
  ·exact SimI.rd 11 ([(59, qb true)] ++ rp W25 tz) [] (.thenN (.ct (.sr 1 [(2, qb false)] [] (.ret (.blockR (.thenR (.loopR (.blockR (.thenR .fn)))))))))
  ·refine SimI.rn 3 [(51, qj 1), (50, .one (li .u8 a0.Mask)), (49, qp 1 1)] [] (.cl 52 true [[], []] 99 [50, 51] (some (48, false)) (fun r8 => qb r8) [.one (li .u8 a0.Mask), qj 1] (F99_ok _ _ _) (fun r8 => ?_))
   refine SimI.rn 2 [(54, qb (!(r8))), (53, qb (!(r8)))] [] (.sp 54 _ ?_ ?_)
   ·refine SimI.rn 2 [(56, .agg [lj 0, ls be]), (55, .agg (W16 a0))] [] (.se ⟨some 57, .prim (.bin .neq 25 false false) [55, 56], some (54, true), []⟩ [(57, qb (!(Field.eqb a0.F.a1 (Field.mk 0 be))))] [] (pe (ep (Field_eqn a0.F.a1 (Field.mk 0 be) _ _))) (.rd 2 (rp [59, 58] (qb (!(Field.eqb a0.F.a1 (Field.mk 0 be))))) [] (.thenN (.cd _ ?_ ?_))))
    ·exact Sim.sr 1 [(2, qb false)] [] (.ret (.blockR (.thenR (.loopR (.blockR (.thenR .fn))))))
    ·refine Sim.skip (.blockN (.thenN (.region0 (.rd 2 [(41, qj 2), (60, qj 2)] [] (.loopN (.pr [1, 40, 41] [1, 4] [] (w2 a0) (W3 a0) ?_))))))
     exact F77_u9_ok n a0
   ·refine SimI.rd 5 W12 [] (.thenN (.cf (.skip (.blockN (.thenN (.region0 (.rd 2 [(41, qj 2), (60, qj 2)] [] (.loopN (.pr [1, 40, 41] [1, 4] [] (w2 a0) (W3 a0) ?_)))))))))
    exact F77_u9_ok n a0
def F77_j3 (n : Nat) (a0 : Delta) : Option Bool :=
  (F70 n a0.F.a0).bind fun (r4 : Bool) =>
  if !(r4) then
   some false
  else
   (F99 n a0.Mask 0).bind fun (r5 : Bool) =>
   if !(r5) then
    if !(Field.eqb a0.F.a0 (Field.mk 0 ByteArray.empty)) then
     some false
    else
     F77_u6 n a0
   else
    F77_u6 n a0
theorem F77_j3_ok (n : Nat) (a0 : Delta) : Sim Try.prog D (n + 8) p77c41 [(1, qp 1 0)] (W3 a0) (F77_j3 n a0) (QF false pc77_r 0 F77_e) := by
  unfold F77_j3
  refine Sim.seq (.seq (.rs (.rd 3 [(41, qj 0), (40, .agg (A4_Field.cells a0.F)), (39, qp 1 4)] [] (.thenN (.block (.loop (.succ (.seq (.rg [(1, qp 1 0), (40, .agg (A4_Field.cells a0.F)), (41, qj 0)] (W3 a0) (.rd 1 [(42, qb true)] [] (.thenN (.seq (.ct (.skip (.thenN (.seq (.block (.sr 5 [(3, qj 0), (4, qp 4 0), (44, .agg (W17 a0)), (43, qj 0)] [(4, some (.cells (W17 a0))), (4, some (.cells [lj 0, ls be]))] (.st 1 [(45, .agg (W17 a0))] [] (.cl 46 true [[]] 70 [45] none (fun r4 => qb r4) [.agg (W17 a0)] (F70_ok _ _) (fun r4 => ?_)))))))))))))))))))))
  refine SimI.rn 2 [(48, qb (!(r4))), (47, qb (!(r4)))] [] (.sp 48 _ ?_ ?_)
  ·exact SimI.rd 11 ([(59, qb true)] ++ rp W25 tz) [] (.thenN (.ct (.sr 1 [(2, qb false)] [] (.ret (.blockR (.thenR (.loopR (.blockR (.thenR .fn)))))))))
  ·refine SimI.rn 3 [(51, qj 0), (50, .one (li .u8 a0.Mask)), (49, qp 1 1)] [] (.cl 52 true [[], []] 99 [50, 51] (some (48, false)) (fun r5 => qb r5) [.one (li .u8 a0.Mask), qj 0] (F99_ok _ _ _) (fun r5 => ?_))
   refine SimI.rn 2 [(54, qb (!(r5))), (53, qb (!(r5)))] [] (.sp 54 _ ?_ ?_)
   ·refine SimI.rn 2 [(56, .agg [lj 0, ls be]), (55, .agg (W17 a0))] [] (.se ⟨some 57, .prim (.bin .neq 25 false false) [55, 56], some (54, true), []⟩ [(57, qb (!(Field.eqb a0.F.a0 (Field.mk 0 be))))] [] (pe (ep (Field_eqn a0.F.a0 (Field.mk 0 be) _ _))) (.rd 2 (rp [59, 58] (qb (!(Field.eqb a0.F.a0 (Field.mk 0 be))))) [] (.thenN (.cd _ ?_ ?_))))
    ·exact Sim.sr 1 [(2, qb false)] [] (.ret (.blockR (.thenR (.loopR (.blockR (.thenR .fn))))))
    ·refine Sim.skip (.blockN (.thenN (.region0 (.rd 2 [(41, qj 1), (60, qj 1)] [] (.loopN (.pr [1, 40, 41] [1, 4] [] (w3 a0) (W3 a0) ?_))))))
     exact F77_u6_ok n a0
   ·refine SimI.rd 5 W12 [] (.thenN (.cf (.skip (.blockN (.thenN (.region0 (.rd 2 [(41, qj 1), (60, qj 1)] [] (.loopN (.pr [1, 40, 41] [1, 4] [] (w3 a0) (W3 a0) ?_)))))))))
    exact F77_u6_ok n a0
def F77 (n : Nat) (a0 : Delta) : Option Bool :=
 if decide (a0.ID < 0) then
  some false
 else
  if decide ((1000000 : Int) < a0.ID) then
   some false
  else
   if a0.Mask == 0 then
    some false
   else
    if decide ((31 : Int) < a0.Mask) then
     some false
    else
     if (bitsI .and .u8 a0.Mask 1) == 0 then
      if !(Point.eqb a0.At (Point.mk 0 0)) then
       some false
      else
       (F67 n a0.At).bind fun (r1 : Bool) =>
       if !(r1) then
        some false
       else
        F77_j3 n a0
     else
      (F67 n a0.At).bind fun (r2 : Bool) =>
      if !(r2) then
       some false
      else
       F77_j3 n a0
theorem F77_ok (n : Nat) (a0 : Delta) : ∀ r, F77 n a0 = some r → D 77 [.agg (Delta.cells a0)] [] = some (F77_e r) := by
 refine fn_to (D := D) (n := n + 8) (nt := 61) (rs := pc77_r) (c := p77c44) (L := [(0, .agg (Delta.cells a0))]) (M := []) (k := 0) rfl rfl rfl rfl rfl rfl rfl ?_
 unfold F77
 refine Sim.sr 2 W24 (W3 a0) (.seq (.st 4 (rp [8, 7] (qb (decide (a0.ID < 0))) ++ [(6, qj a0.ID), (5, qp 1 0)]) [] (.sp 8 _ ?_ ?_)))
 ·exact SimI.rd 14 [(22, qb true), (21, tz), (20, tz), (19, tz), (18, qb true), (17, qb true), (16, tz), (15, tz), (14, tz), (13, qb true), (12, qb true), (11, tz), (10, tz), (9, tz)] [] (.thenN (.ct (.sr 1 [(2, qb false)] [] (.ret (.thenR .fn)))))
 ·refine SimI.rn 5 (rp [13, 12, 11] (qb (decide ((1000000 : Int) < a0.ID))) ++ [(10, qj a0.ID), (9, qp 1 0)]) [] (.sp 13 _ ?_ ?_)
  ·exact SimI.rd 9 [(22, qb true), (21, tz), (20, tz), (19, tz), (18, qb true), (17, qb true), (16, tz), (15, tz), (14, tz)] [] (.thenN (.ct (.sr 1 [(2, qb false)] [] (.ret (.thenR .fn)))))
  ·refine SimI.rn 5 (rp [18, 17, 16] (qb (a0.Mask == 0)) ++ [(15, .one (li .u8 a0.Mask)), (14, qp 1 1)]) [] (.sp 18 _ ?_ ?_)
   ·exact SimI.rd 4 [(22, qb true), (21, tz), (20, tz), (19, tz)] [] (.thenN (.ct (.sr 1 [(2, qb false)] [] (.ret (.thenR .fn)))))
   ·refine SimI.rd 4 (rp [22, 21] (qb (decide ((31 : Int) < a0.Mask))) ++ [(20, .one (li .u8 a0.Mask)), (19, qp 1 1)]) [] (.thenN (.cd _ ?_ ?_))
    ·exact Sim.sr 1 [(2, qb false)] [] (.ret (.thenR .fn))
    ·refine Sim.skip (.thenN (.seq (.st 5 (rp [27, 26] (qb ((bitsI .and .u8 a0.Mask 1) == 0)) ++ [(25, .one (li .u8 (bitsI .and .u8 a0.Mask 1))), (24, .one (li .u8 a0.Mask)), (23, qp 1 1)]) [] (.sp 27 _ ?_ ?_))))
     ·refine SimI.rn 3 [(30, .agg [lj 0, lj 0]), (29, .agg [lj a0.At.X, lj a0.At.Y]), (28, qp 1 2)] [] (.se ⟨some 31, .prim (.bin .neq 23 false false) [29, 30], some (27, true), []⟩ [(31, qb (!(Point.eqb a0.At (Point.mk 0 0))))] [] (pe (ep (Point_eqn a0.At (Point.mk 0 0) _ _))) (.rn 2 (rp [33, 32] (qb (!(Point.eqb a0.At (Point.mk 0 0))))) [] (.sp 33 _ ?_ ?_)))
      ·exact SimI.rd 5 [(38, qb true), (37, tz), (36, tz), (35, tz), (34, tz)] [] (.thenN (.ct (.sr 1 [(2, qb false)] [] (.ret (.thenR .fn)))))
      ·refine SimI.rn 2 [(35, .agg [lj a0.At.X, lj a0.At.Y]), (34, qp 1 2)] [] (.cl 36 true [[]] 67 [35] (some (33, false)) (fun r1 => qb r1) [.agg [lj a0.At.X, lj a0.At.Y]] (F67_ok _ _) (fun r1 => ?_))
       refine SimI.rd 2 [(38, qb (!(r1))), (37, qb (!(r1)))] [] (.thenN (.cd _ ?_ ?_))
       ·exact Sim.sr 1 [(2, qb false)] [] (.ret (.thenR .fn))
       ·refine Sim.skip (.thenN (.pr [1] [1] [] [(1, qp 1 0)] (W3 a0) ?_))
        exact F77_j3_ok n a0
     ·refine SimI.rn 8 [(35, .agg [lj a0.At.X, lj a0.At.Y]), (34, qp 1 2), (33, qb false), (32, qb false), (31, tz), (30, tz), (29, tz), (28, tz)] [] (.cl 36 true [[]] 67 [35] (some (33, false)) (fun r2 => qb r2) [.agg [lj a0.At.X, lj a0.At.Y]] (F67_ok _ _) (fun r2 => ?_))
      refine SimI.rd 2 [(38, qb (!(r2))), (37, qb (!(r2)))] [] (.thenN (.cd _ ?_ ?_))
      ·exact Sim.sr 1 [(2, qb false)] [] (.ret (.thenR .fn))
      ·refine Sim.skip (.thenN (.pr [1] [1] [] [(1, qp 1 0)] (W3 a0) ?_))
       exact F77_j3_ok n a0
def F39_e : Bool → PV × List Ob := fun r => (.one (lb r), [])
def F39 (n : Nat) (a0 : Event) : Option Bool :=
 if a0.Kind == 1 then
  (F24 n a0.Thing).bind fun (r1 : Bool) =>
  if r1 then
   if a0.ID == a0.Thing.ID then
    some (Delta.eqb a0.Delta (Delta.mk 0 0 (Point.mk 0 0) (A4.mk (Field.mk 0 ByteArray.empty) (Field.mk 0 ByteArray.empty) (Field.mk 0 ByteArray.empty) (Field.mk 0 ByteArray.empty))))
   else
    some false
  else
   some false
 else
  if a0.Kind == 2 then
   (F77 n a0.Delta).bind fun (r2 : Bool) =>
   if r2 then
    if a0.ID == a0.Delta.ID then
     some (Thing.eqb a0.Thing (Thing.mk 0 (Point.mk 0 0) (A4.mk (Field.mk 0 ByteArray.empty) (Field.mk 0 ByteArray.empty) (Field.mk 0 ByteArray.empty) (Field.mk 0 ByteArray.empty))))
    else
     some false
   else
    some false
  else
   if a0.Kind == 3 then
    if decide ((0 : Int) ≤ a0.ID) then
     if decide (a0.ID ≤ 1000000) then
      if Thing.eqb a0.Thing (Thing.mk 0 (Point.mk 0 0) (A4.mk (Field.mk 0 ByteArray.empty) (Field.mk 0 ByteArray.empty) (Field.mk 0 ByteArray.empty) (Field.mk 0 ByteArray.empty))) then
       some (Delta.eqb a0.Delta (Delta.mk 0 0 (Point.mk 0 0) (A4.mk (Field.mk 0 ByteArray.empty) (Field.mk 0 ByteArray.empty) (Field.mk 0 ByteArray.empty) (Field.mk 0 ByteArray.empty))))
      else
       some false
     else
      some false
    else
     some false
   else
    some false
theorem F39_ok (n : Nat) (a0 : Event) : ∀ r, F39 n a0 = some r → D 39 [.agg (Event.cells a0)] [] = some (F39_e r) := by
 refine fn_to (D := D) (n := n + 8) (nt := 63) (rs := pc39_r) (c := p39c30) (L := [(0, .agg (Event.cells a0))]) (M := []) (k := 0) rfl rfl rfl rfl rfl rfl rfl ?_
 unfold F39
 refine Sim.sr 2 W24 [(1, some (.cells (Event.cells a0)))] (.st 3 [(7, .agg W30), (6, .agg (Thing.cells a0.Thing)), (5, qp 1 2)] [] (.se ⟨some 8, .prim (.bin .eql 28 false false) [6, 7], none, [(6, .imm), (7, .imm)]⟩ [(8, qb (Thing.eqb a0.Thing (Thing.mk 0 (Point.mk 0 0) (A4.mk (Field.mk 0 be) (Field.mk 0 be) (Field.mk 0 be) (Field.mk 0 be)))))] [] (pe (ep (Thing_eql a0.Thing (Thing.mk 0 (Point.mk 0 0) (A4.mk (Field.mk 0 be) (Field.mk 0 be) (Field.mk 0 be) (Field.mk 0 be))) _ _))) (.rn 3 [(11, .agg [lj 0, li .u8 0, lj 0, lj 0, lj 0, ls be, lj 0, ls be, lj 0, ls be, lj 0, ls be]), (10, .agg (Delta.cells a0.Delta)), (9, qp 1 13)] [] (.se ⟨some 12, .prim (.bin .eql 35 false false) [10, 11], none, [(10, .imm), (11, .imm)]⟩ [(12, qb (Delta.eqb a0.Delta (Delta.mk 0 0 (Point.mk 0 0) (A4.mk (Field.mk 0 be) (Field.mk 0 be) (Field.mk 0 be) (Field.mk 0 be)))))] [] (pe (ep (Delta_eql a0.Delta (Delta.mk 0 0 (Point.mk 0 0) (A4.mk (Field.mk 0 be) (Field.mk 0 be) (Field.mk 0 be) (Field.mk 0 be))) _ _))) (.rd 2 [(4, qb (Delta.eqb a0.Delta (Delta.mk 0 0 (Point.mk 0 0) (A4.mk (Field.mk 0 be) (Field.mk 0 be) (Field.mk 0 be) (Field.mk 0 be))))), (3, qb (Thing.eqb a0.Thing (Thing.mk 0 (Point.mk 0 0) (A4.mk (Field.mk 0 be) (Field.mk 0 be) (Field.mk 0 be) (Field.mk 0 be)))))] [] (.thenN (.seq (.sr 2 [(14, qj a0.Kind), (13, qp 1 0)] [] (.block (.sr 2 (rp [15, 16] (qb (a0.Kind == 1))) [] (.cd _ ?_ ?_)))))))))))
 ·refine Sim.st 2 [(18, .agg (Thing.cells a0.Thing)), (17, qp 1 2)] [] (.cl 19 true [[]] 24 [18] none (fun r1 => qb r1) [.agg (Thing.cells a0.Thing)] (F24_ok _ _) (fun r1 => ?_))
  refine SimI.rn 1 [(20, qb r1)] [] (.sp 20 _ ?_ ?_)
  ·refine SimI.rn 8 (rp [28, 27, 26] (qb (a0.ID == a0.Thing.ID)) ++ [(25, qj a0.Thing.ID), (24, qp 1 2), (23, qp 1 2), (22, qj a0.ID), (21, qp 1 1)]) [] (.sp 28 _ ?_ ?_)
   ·exact SimI.rd 3 (rp [2, 30, 29] (qb (Delta.eqb a0.Delta (Delta.mk 0 0 (Point.mk 0 0) (A4.mk (Field.mk 0 be) (Field.mk 0 be) (Field.mk 0 be) (Field.mk 0 be)))))) [] (.thenN (.ret (.blockR (.thenR .fn))))
   ·exact SimI.rd 3 [(2, qb false), (30, qb false), (29, tz)] [] (.thenN (.ret (.blockR (.thenR .fn))))
  ·exact SimI.rd 11 ([(2, qb false), (30, qb false), (29, tz), (28, qb false), (27, qb false)] ++ rp [26, 25, 24, 23, 22, 21] tz) [] (.thenN (.ret (.blockR (.thenR .fn))))
 ·refine Sim.sr 2 (rp [31, 32] (qb (a0.Kind == 2))) [] (.cd _ ?_ ?_)
  ·refine Sim.st 2 [(34, .agg (Delta.cells a0.Delta)), (33, qp 1 13)] [] (.cl 35 true [[]] 77 [34] none (fun r2 => qb r2) [.agg (Delta.cells a0.Delta)] (F77_ok _ _) (fun r2 => ?_))
   refine SimI.rn 1 [(36, qb r2)] [] (.sp 36 _ ?_ ?_)
   ·refine SimI.rn 8 (rp [44, 43, 42] (qb (a0.ID == a0.Delta.ID)) ++ [(41, qj a0.Delta.ID), (40, qp 1 13), (39, qp 1 13), (38, qj a0.ID), (37, qp 1 1)]) [] (.sp 44 _ ?_ ?_)
    ·exact SimI.rd 3 (rp [2, 46, 45] (qb (Thing.eqb a0.Thing (Thing.mk 0 (Point.mk 0 0) (A4.mk (Field.mk 0 be) (Field.mk 0 be) (Field.mk 0 be) (Field.mk 0 be)))))) [] (.thenN (.ret (.blockR (.thenR .fn))))
    ·exact SimI.rd 3 [(2, qb false), (46, qb false), (45, tz)] [] (.thenN (.ret (.blockR (.thenR .fn))))
   ·exact SimI.rd 11 ([(2, qb false), (46, qb false), (45, tz), (44, qb false), (43, qb false)] ++ rp [42, 41, 40, 39, 38, 37] tz) [] (.thenN (.ret (.blockR (.thenR .fn))))
  ·refine Sim.sr 2 (rp [47, 48] (qb (a0.Kind == 3))) [] (.cd _ ?_ ?_)
   ·refine Sim.st 4 (rp [52, 51] (qb (decide ((0 : Int) ≤ a0.ID))) ++ [(50, qj a0.ID), (49, qp 1 1)]) [] (.sp 52 _ ?_ ?_)
    ·refine SimI.rn 5 (rp [57, 56, 55] (qb (decide (a0.ID ≤ 1000000))) ++ [(54, qj a0.ID), (53, qp 1 1)]) [] (.sp 57 _ ?_ ?_)
     ·refine SimI.rn 3 (rp [60, 59, 58] (qb (Thing.eqb a0.Thing (Thing.mk 0 (Point.mk 0 0) (A4.mk (Field.mk 0 be) (Field.mk 0 be) (Field.mk 0 be) (Field.mk 0 be)))))) [] (.sp 60 _ ?_ ?_)
      ·exact SimI.rd 3 (rp [2, 62, 61] (qb (Delta.eqb a0.Delta (Delta.mk 0 0 (Point.mk 0 0) (A4.mk (Field.mk 0 be) (Field.mk 0 be) (Field.mk 0 be) (Field.mk 0 be)))))) [] (.thenN (.ret (.blockR (.thenR .fn))))
      ·exact SimI.rd 3 [(2, qb false), (62, qb false), (61, tz)] [] (.thenN (.ret (.blockR (.thenR .fn))))
     ·exact SimI.rd 6 [(2, qb false), (62, qb false), (61, tz), (60, qb false), (59, qb false), (58, tz)] [] (.thenN (.ret (.blockR (.thenR .fn))))
    ·exact SimI.rd 11 [(2, qb false), (62, qb false), (61, tz), (60, qb false), (59, qb false), (58, tz), (57, qb false), (56, qb false), (55, tz), (54, tz), (53, tz)] [] (.thenN (.ret (.blockR (.thenR .fn))))
   ·exact Sim.skip (.blockN (.thenN (.sr 1 [(2, qb false)] [] (.ret .fn))))
def F111_e : Bool → PV × List Ob := fun r => (.one (lb r), [])
def F111 (n : Nat) (a0 : Int) : Option Bool :=
 some (a0 != a0)
theorem F111_ok (n : Nat) (a0 : Int) : ∀ r, F111 n a0 = some r → D 111 [.one (li .i64 a0)] [] = some (F111_e r) := by
 refine fn_to (D := D) (n := n + 8) (nt := 6) (rs := pc111_r) (c := p111c5) (L := [(0, qj a0)]) (M := []) (k := 0) rfl rfl rfl rfl rfl rfl rfl ?_
 unfold F111
 exact Sim.sr 1 [(2, qb false)] [] (.sr 4 [(2, qb (a0 != a0)), (5, qb (a0 != a0)), (4, qj a0), (3, qj a0)] [] (.ret .fn))
def F86_e : Int → PV × List Ob := fun r => (.one (li .i64 r), [])
def F86 (n : Nat) (a0 a1 : Int) : Option Int :=
 (F111 n a0).bind fun (r1 : Bool) =>
 (F111 n a1).bind fun (r2 : Bool) =>
 if r1 then
  if r2 then
   some 0
  else
   some (-1)
 else
  if r2 then
   some 1
  else
   if decide (a0 < a1) then
    some (-1)
   else
    if decide (a1 < a0) then
     some 1
    else
     some 0
theorem F86_ok (n : Nat) (a0 a1 : Int) : ∀ r, F86 n a0 a1 = some r → D 86 [.one (li .i64 a0), .one (li .i64 a1)] [] = some (F86_e r) := by
 refine fn_to (D := D) (n := n + 8) (nt := 20) (rs := pc86_r) (c := p86c49) (L := [(0, qj a0), (1, qj a1)]) (M := []) (k := 0) rfl rfl rfl rfl rfl rfl rfl ?_
 unfold F86
 refine Sim.sr 1 [(4, qj 0)] [] (.st 1 [(7, qj a0)] [] (.cl 8 true [[]] 111 [7] none (fun r1 => qb r1) [qj a0] (F111_ok _ _) (fun r1 => ?_)))
 refine SimI.rd 1 [(5, qb r1)] [] (.thenN (.st 1 [(9, qj a1)] [] (.cl 10 true [[]] 111 [9] none (fun r2 => qb r2) [qj a1] (F111_ok _ _) (fun r2 => ?_))))
 refine SimI.rd 1 [(6, qb r2)] [] (.thenN (.seq (.sr 1 [(11, qb r1)] [] (.cd _ ?_ ?_))))
 ·refine Sim.seq (.sr 1 [(12, qb r2)] [] (.cd _ ?_ ?_))
  ·exact Sim.sr 1 [(4, qj 0)] [] (.ret (.thenR (.thenR .fn)))
  ·exact Sim.skip (.thenN (.sr 1 [(4, qj (-1))] [] (.ret (.thenR .fn))))
 ·refine Sim.skip (.thenN (.seq (.sr 1 [(13, qb r2)] [] (.cd _ ?_ ?_))))
  ·exact Sim.sr 1 [(4, qj 1)] [] (.ret (.thenR .fn))
  ·refine Sim.skip (.thenN (.seq (.sr 3 [(16, qb (decide (a0 < a1))), (15, qj a1), (14, qj a0)] [] (.cd _ ?_ ?_))))
   ·exact Sim.sr 1 [(4, qj (-1))] [] (.ret (.thenR .fn))
   ·refine Sim.skip (.thenN (.seq (.sr 3 [(19, qb (decide (a1 < a0))), (18, qj a1), (17, qj a0)] [] (.cd _ ?_ ?_))))
    ·exact Sim.sr 1 [(4, qj 1)] [] (.ret (.thenR .fn))
    ·exact Sim.skip (.thenN (.sr 1 [(4, qj 0)] [] (.ret .fn)))
def F85_e : Int → PV × List Ob := fun r => (.one (li .i64 r), [])
def F85 (n : Nat) (a0 : Thing) (a1 : Int) : Option Int :=
 (F86 n a0.ID a1).bind fun (r1 : Int) =>
 some r1
theorem F85_ok (n : Nat) (a0 : Thing) (a1 : Int) : ∀ r, F85 n a0 a1 = some r → D 85 [.agg (Thing.cells a0), .one (li .i64 a1)] [] = some (F85_e r) := by
 refine fn_to (D := D) (n := n + 8) (nt := 9) (rs := pc85_r) (c := p85c5) (L := [(0, .agg (Thing.cells a0)), (1, qj a1)]) (M := []) (k := 0) rfl rfl rfl rfl rfl rfl rfl ?_
 unfold F85
 refine Sim.sr 2 [(4, qj 0), (2, qp 2 0)] [(2, some (.cells (Thing.cells a0)))] (.st 3 [(7, qj a1), (6, qj a0.ID), (5, qp 2 0)] [] (.cl 8 true [[], []] 86 [6, 7] none (fun r1 => qj r1) [qj a0.ID, qj a1] (F86_ok _ _ _) (fun r1 => ?_)))
 exact SimI.rd 1 [(4, qj r1)] [] (.thenN (.ret .fn))
def F84s0_e (a0 : (List Thing)) (a1 : Int) : (Int × Bool) → PV × List Ob := fun r => (.tup [.one (li .i64 r.1), .one (lb r.2)], [])
def F84s0_l7 (n : Nat) (a0 : (List Thing)) (a1 : Int) : Nat → Int → Int → Option (Int × Bool)
 | 0, _, _ => none
 | m + 1, i5, i6 =>
  if decide (i5 < i6) then
   (ix a0 (IntKind.wrap .i64 (shrI .u64 (IntKind.wrap .u64 (IntKind.wrap .i64 (i5 + i6))) 1))).bind fun (x8 : Thing) =>
   (F85 n x8 a1).bind fun (r9 : Int) =>
   if decide (r9 < 0) then
    (F84s0_l7 n a0 a1 m) (IntKind.wrap .i64 (IntKind.wrap .i64 (shrI .u64 (IntKind.wrap .u64 (IntKind.wrap .i64 (i5 + i6))) 1) + 1)) i6
   else
    (F84s0_l7 n a0 a1 m) i5 (IntKind.wrap .i64 (shrI .u64 (IntKind.wrap .u64 (IntKind.wrap .i64 (i5 + i6))) 1))
  else
   if decide (i5 < ((a0).length : Int)) then
    (ix a0 i5).bind fun (x10 : Thing) =>
    (F85 n x10 a1).bind fun (r11 : Int) =>
    some (i5, (r11 == 0))
   else
    some (i5, false)
theorem F84s0_l7_ok (n : Nat) (a0 : (List Thing)) (a1 : Int) : ∀ (m : Nat) (i5 i6 : Int), SimL Try.prog D (n + 8) m p84c17 [(0, .one (vw Thing.cod a0)), (1, qj a1), (2, .one (.val (.func (.func 85) #[] #[]))), (8, qj ((a0).length : Int)), (9, qj i5), (10, qj i6)] [] (F84s0_l7 n a0 a1 m i5 i6) (QB 0 (QT Try.prog D (n + 8) p84c22 (QF false pc84_r 0 (F84s0_e a0 a1)))) := by
 intro m_l7
 induction m_l7 with
 | zero => intro i5 i6; exact SimL.zero'  rfl
 | succ m_l7 ih_l7 =>
  intro i5 i6
  refine SimL.succ ?_
  unfold F84s0_l7
  refine Sim.seq (.seq (.rg [(0, .one (vw Thing.cod a0)), (1, qj a1), (2, .one (.val (.func (.func 85) #[] #[]))), (8, qj ((a0).length : Int)), (9, qj i5), (10, qj i6)] [] (.rd 3 [(17, qb (decide (i5 < i6))), (16, qj i6), (15, qj i5)] [] (.thenN (.cd _ ?_ ?_)))))
  ·refine Sim.skip (.thenN (.block (.sr 7 (rp [11, 23] (qj (iw .i64 (shrI .u64 (iw .u64 (iw .i64 (i5 + i6))) 1))) ++ [(22, .one (li .u64 (shrI .u64 (iw .u64 (iw .i64 (i5 + i6))) 1))), (21, .one (li .u64 (iw .u64 (iw .i64 (i5 + i6))))), (20, qj (iw .i64 (i5 + i6))), (19, qj i6), (18, qj i5)]) [] (.st 3 [(26, qj (iw .i64 (shrI .u64 (iw .u64 (iw .i64 (i5 + i6))) 1))), (25, .one (vw Thing.cod a0)), (24, .one (.val (.func (.func 85) #[] #[])))] [] (.bn ⟨some 27, .iaddrS 11 25 26, none, []⟩ (fun x8 => [(27, .one (.eptr (Thing.cod.enc x8) 0))]) (fun x8 => []) (fun x8 hr => pe (ei (c := Thing.cod) (k := .i64) hr)) (fun x8 => ?_))))))
   refine SimI.rn 2 [(29, qj a1), (28, .agg (Thing.cells x8))] [] (.bn ⟨some 30, .callv true [[], []] 24 [28, 29], none, []⟩ (fun r9 => [(30, qj r9)]) (fun r9 => []) (fun r9 hr => pe (eff_callvv (by kernel_rfl) (ARGS := [.agg (Thing.cells x8), qj a1]) (by kernel_rfl) (args_clean (by kernel_rfl) (args_clean (by kernel_rfl) args_nil)) (F85_ok _ _ _ _ hr) (by kernel_rfl))) (fun r9 => ?_))
   refine SimI.rd 1 [(31, qb (decide (r9 < 0)))] [] (.thenN (.cd _ ?_ ?_))
   ·refine Sim.region0 (.rd 3 (rp [9, 33] (qj (iw .i64 (iw .i64 (shrI .u64 (iw .u64 (iw .i64 (i5 + i6))) 1) + 1))) ++ [(32, qj (iw .i64 (shrI .u64 (iw .u64 (iw .i64 (i5 + i6))) 1)))]) [] (.blockN (.loopN (.pr [0, 1, 2, 8, 9, 10] [] [] [(0, .one (vw Thing.cod a0)), (1, qj a1), (2, .one (.val (.func (.func 85) #[] #[]))), (8, qj ((a0).length : Int)), (9, qj (iw .i64 (iw .i64 (shrI .u64 (iw .u64 (iw .i64 (i5 + i6))) 1) + 1))), (10, qj i6)] [] ?_))))
    exact ih_l7 (iw .i64 (iw .i64 (shrI .u64 (iw .u64 (iw .i64 (i5 + i6))) 1) + 1)) i6
   ·refine Sim.region0 (.rd 2 (rp [10, 34] (qj (iw .i64 (shrI .u64 (iw .u64 (iw .i64 (i5 + i6))) 1)))) [] (.blockN (.loopN (.pr [0, 1, 2, 8, 9, 10] [] [] [(0, .one (vw Thing.cod a0)), (1, qj a1), (2, .one (.val (.func (.func 85) #[] #[]))), (8, qj ((a0).length : Int)), (9, qj i5), (10, qj (iw .i64 (shrI .u64 (iw .u64 (iw .i64 (i5 + i6))) 1)))] [] ?_))))
    exact ih_l7 i5 (iw .i64 (shrI .u64 (iw .u64 (iw .i64 (i5 + i6))) 1))
  ·refine Sim.exit (.thenX (.loopX (.blockX (.thenN (.st 5 (rp [39, 38] (qb (decide (i5 < ((a0).length : Int)))) ++ [(37, qj ((a0).length : Int)), (36, qj i5), (35, qj i5)]) [] (.sp 39 _ ?_ ?_))))))
   ·refine SimI.rn 3 [(42, qj i5), (41, .one (vw Thing.cod a0)), (40, .one (.val (.func (.func 85) #[] #[])))] [] (.bn ⟨some 43, .iaddrS 11 41 42, some (39, true), []⟩ (fun x10 => [(43, .one (.eptr (Thing.cod.enc x10) 0))]) (fun x10 => []) (fun x10 hr => pe (ei (c := Thing.cod) (k := .i64) hr)) (fun x10 => ?_))
    refine SimI.rn 2 [(45, qj a1), (44, .agg (Thing.cells x10))] [] (.bn ⟨some 46, .callv true [[], []] 40 [44, 45], some (39, true), []⟩ (fun r11 => [(46, qj r11)]) (fun r11 => []) (fun r11 hr => pe (eff_callvv (by kernel_rfl) (ARGS := [.agg (Thing.cells x10), qj a1]) (by kernel_rfl) (args_clean (by kernel_rfl) (args_clean (by kernel_rfl) args_nil)) (F85_ok _ _ _ _ hr) (by kernel_rfl))) (fun r11 => ?_))
    exact SimI.rd 4 [(7, qb (r11 == 0)), (6, qj i5), (48, qb (r11 == 0)), (47, qb (r11 == 0))] [] (.thenN (.ret .fn))
   ·exact SimI.rd 11 ([(7, qb false), (6, qj i5), (48, qb false)] ++ rp [47, 46, 45, 44, 43, 42, 41, 40] tz) [] (.thenN (.ret .fn))
def F84s0 (n : Nat) (a0 : (List Thing)) (a1 : Int) : Option (Int × Bool) :=
 F84s0_l7 n a0 a1 (n + 8) 0 ((a0).length : Int)
theorem F84s0_ok (n : Nat) (a0 : (List Thing)) (a1 : Int) : ∀ r, F84s0 n a0 a1 = some r → D 84 [.one (vw Thing.cod a0), .one (li .i64 a1), .one (.val (.func (.func 85) #[] #[]))] [] = some ((F84s0_e a0 a1) r) := by
 refine fn_to (D := D) (n := n + 8) (nt := 49) (rs := pc84_r) (c := p84c26) (L := [(0, .one (vw Thing.cod a0)), (1, qj a1), (2, .one (.val (.func (.func 85) #[] #[])))]) (M := []) (k := 0) rfl rfl rfl rfl rfl rfl rfl ?_
 unfold F84s0
 refine Sim.sr 2 [(7, qb false), (6, qj 0)] [] (.sr 3 (rp [8, 13] (qj ((a0).length : Int)) ++ [(12, .one (vw Thing.cod a0))]) [] (.sr 3 [(10, qj ((a0).length : Int)), (9, qj 0), (14, qj ((a0).length : Int))] [] (.seq (.block (.loop (.pr [0, 1, 2, 8, 9, 10] [] [] [(0, .one (vw Thing.cod a0)), (1, qj a1), (2, .one (.val (.func (.func 85) #[] #[]))), (8, qj ((a0).length : Int)), (9, qj 0), (10, qj ((a0).length : Int))] [] ?_))))))
 exact F84s0_l7_ok n a0 a1 (n + 8) 0 ((a0).length : Int)
def F88_e : Thing → PV × List Ob := fun r => (.agg (Thing.cells r), [])
def F88_u14 (n : Nat) (g13 : Thing) : Option Thing :=
  some g13
theorem F88_u14_ok (n : Nat) (a1 : Delta) (g13 : Thing) : SimL Try.prog D (n + 8) (n + 4) p88c23 [(2, qp 2 0), (3, qp 3 0), (4, qp 4 0), (15, .agg (A4_Field.cells a1.F)), (16, qj 4)] (W0 g13 a1) (F88_u14 n g13) (QB 0 (QT Try.prog D (n + 8) p88c29 (QF false pc88_r 0 F88_e))) := by
  unfold F88_u14
  exact SimL.succ (.seq (.rg (w4 a1) (W0 g13 a1) (.rd 1 [(17, qb false)] [] (.thenN (.seq (.cf (.exit (.thenX (.loopX (.blockX (.thenN (.sr 2 [(29, .agg (Thing.cells g13))] [(4, some (.cells (Thing.cells g13)))] (.ret .fn)))))))))))))
def F88_u11 (n : Nat) (a0 : Thing) (a1 : Delta) (g10 : Thing) : Option Thing :=
  (F99 n a1.Mask 3).bind fun (r12 : Bool) =>
  if r12 then
   F88_u14 n (Thing.mk g10.ID g10.At (A4.mk g10.F.a0 g10.F.a1 g10.F.a2 a1.F.a3))
  else
   F88_u14 n g10
theorem F88_u11_ok (n : Nat) (a0 : Thing) (a1 : Delta) (g10 : Thing) : SimL Try.prog D (n + 8) (n + 5) p88c23 [(2, qp 2 0), (3, qp 3 0), (4, qp 4 0), (15, .agg (A4_Field.cells a1.F)), (16, qj 3)] (W0 g10 a1) (F88_u11 n a0 a1 g10) (QB 0 (QT Try.prog D (n + 8) p88c29 (QF false pc88_r 0 F88_e))) := by
  unfold F88_u11
  refine SimL.succ (.seq (.rg (w5 a1) (W0 g10 a1) (.rd 1 [(17, qb true)] [] (.thenN (.seq (.ct (.skip (.thenN (.seq (.block (.sr 5 [(5, qj 3), (6, qp 6 0), (19, .agg (W14 a1)), (18, qj 3)] [(6, some (.cells (W14 a1))), (6, some (.cells [lj 0, ls be]))] (.st 3 [(22, qj 3), (21, .one (li .u8 a1.Mask)), (20, qp 3 1)] [] (.cl 23 true [[], []] 99 [21, 22] none (fun r12 => qb r12) [.one (li .u8 a1.Mask), qj 3] (F99_ok _ _ _) (fun r12 => ?_))))))))))))))
  refine SimI.dn (.thenN (.cd _ ?_ ?_))
  ·refine Sim.region0 (.rd 5 [(27, qp 2 9), (26, qp 2 3), (25, .agg (W14 a1)), (24, qj 3)] [(2, some (.cells (W19 g10 a1)))] (.blockN (.thenN (.region0 (.rd 2 [(16, qj 4), (28, qj 4)] [] (.loopN (.pr [2, 3, 4, 15, 16] [2, 3, 4, 6] [] (w4 a1) [(2, some (.cells (W19 g10 a1))), (3, some (.cells (Delta.cells a1))), (4, some (.cells W30))] ?_)))))))
   exact F88_u14_ok n a1 (Thing.mk g10.ID g10.At (A4.mk g10.F.a0 g10.F.a1 g10.F.a2 a1.F.a3))
  ·refine Sim.skip (.blockN (.thenN (.region0 (.rd 2 [(16, qj 4), (28, qj 4)] [] (.loopN (.pr [2, 3, 4, 15, 16] [2, 3, 4, 6] [] (w4 a1) (W0 g10 a1) ?_))))))
   exact F88_u14_ok n a1 g10
def F88_u8 (n : Nat) (a0 : Thing) (a1 : Delta) (g7 : Thing) : Option Thing :=
  (F99 n a1.Mask 2).bind fun (r9 : Bool) =>
  if r9 then
   F88_u11 n a0 a1 (Thing.mk g7.ID g7.At (A4.mk g7.F.a0 g7.F.a1 a1.F.a2 g7.F.a3))
  else
   F88_u11 n a0 a1 g7
theorem F88_u8_ok (n : Nat) (a0 : Thing) (a1 : Delta) (g7 : Thing) : SimL Try.prog D (n + 8) (n + 6) p88c23 [(2, qp 2 0), (3, qp 3 0), (4, qp 4 0), (15, .agg (A4_Field.cells a1.F)), (16, qj 2)] (W0 g7 a1) (F88_u8 n a0 a1 g7) (QB 0 (QT Try.prog D (n + 8) p88c29 (QF false pc88_r 0 F88_e))) := by
  unfold F88_u8
  refine SimL.succ (.seq (.rg (w6 a1) (W0 g7 a1) (.rd 1 [(17, qb true)] [] (.thenN (.seq (.ct (.skip (.thenN (.seq (.block (.sr 5 [(5, qj 2), (6, qp 6 0), (19, .agg (W15 a1)), (18, qj 2)] [(6, some (.cells (W15 a1))), (6, some (.cells [lj 0, ls be]))] (.st 3 [(22, qj 2), (21, .one (li .u8 a1.Mask)), (20, qp 3 1)] [] (.cl 23 true [[], []] 99 [21, 22] none (fun r9 => qb r9) [.one (li .u8 a1.Mask), qj 2] (F99_ok _ _ _) (fun r9 => ?_))))))))))))))
  refine SimI.dn (.thenN (.cd _ ?_ ?_))
  ·refine Sim.region0 (.rd 5 [(27, qp 2 7), (26, qp 2 3), (25, .agg (W15 a1)), (24, qj 2)] [(2, some (.cells (W20 g7 a1)))] (.blockN (.thenN (.region0 (.rd 2 [(16, qj 3), (28, qj 3)] [] (.loopN (.pr [2, 3, 4, 15, 16] [2, 3, 4, 6] [] (w5 a1) [(2, some (.cells (W20 g7 a1))), (3, some (.cells (Delta.cells a1))), (4, some (.cells W30))] ?_)))))))
   exact F88_u11_ok n a0 a1 (Thing.mk g7.ID g7.At (A4.mk g7.F.a0 g7.F.a1 a1.F.a2 g7.F.a3))
  ·refine Sim.skip (.blockN (.thenN (.region0 (.rd 2 [(16, qj 3), (28, qj 3)] [] (.loopN (.pr [2, 3, 4, 15, 16] [2, 3, 4, 6] [] (w5 a1) (W0 g7 a1) ?_))))))
   exact F88_u11_ok n a0 a1 g7
def F88_u5 (n : Nat) (a0 : Thing) (a1 : Delta) (g4 : Thing) : Option Thing :=
  (F99 n a1.Mask 1).bind fun (r6 : Bool) =>
  if r6 then
   F88_u8 n a0 a1 (Thing.mk g4.ID g4.At (A4.mk g4.F.a0 a1.F.a1 g4.F.a2 g4.F.a3))
  else
   F88_u8 n a0 a1 g4
theorem F88_u5_ok (n : Nat) (a0 : Thing) (a1 : Delta) (g4 : Thing) : SimL Try.prog D (n + 8) (n + 7) p88c23 [(2, qp 2 0), (3, qp 3 0), (4, qp 4 0), (15, .agg (A4_Field.cells a1.F)), (16, qj 1)] (W0 g4 a1) (F88_u5 n a0 a1 g4) (QB 0 (QT Try.prog D (n + 8) p88c29 (QF false pc88_r 0 F88_e))) := by
  unfold F88_u5
  refine SimL.succ (.seq (.rg (w7 a1) (W0 g4 a1) (.rd 1 [(17, qb true)] [] (.thenN (.seq (.ct (.skip (.thenN (.seq (.block (.sr 5 [(5, qj 1), (6, qp 6 0), (19, .agg (W16 a1)), (18, qj 1)] [(6, some (.cells (W16 a1))), (6, some (.cells [lj 0, ls be]))] (.st 3 [(22, qj 1), (21, .one (li .u8 a1.Mask)), (20, qp 3 1)] [] (.cl 23 true [[], []] 99 [21, 22] none (fun r6 => qb r6) [.one (li .u8 a1.Mask), qj 1] (F99_ok _ _ _) (fun r6 => ?_))))))))))))))
  refine SimI.dn (.thenN (.cd _ ?_ ?_))
  ·refine Sim.region0 (.rd 5 [(27, qp 2 5), (26, qp 2 3), (25, .agg (W16 a1)), (24, qj 1)] [(2, some (.cells (W21 g4 a1)))] (.blockN (.thenN (.region0 (.rd 2 [(16, qj 2), (28, qj 2)] [] (.loopN (.pr [2, 3, 4, 15, 16] [2, 3, 4, 6] [] (w6 a1) [(2, some (.cells (W21 g4 a1))), (3, some (.cells (Delta.cells a1))), (4, some (.cells W30))] ?_)))))))
   exact F88_u8_ok n a0 a1 (Thing.mk g4.ID g4.At (A4.mk g4.F.a0 a1.F.a1 g4.F.a2 g4.F.a3))
  ·refine Sim.skip (.blockN (.thenN (.region0 (.rd 2 [(16, qj 2), (28, qj 2)] [] (.loopN (.pr [2, 3, 4, 15, 16] [2, 3, 4, 6] [] (w6 a1) (W0 g4 a1) ?_))))))
   exact F88_u8_ok n a0 a1 g4
def F88_j2 (n : Nat) (a0 : Thing) (a1 : Delta) (g1 : Thing) : Option Thing :=
  (F99 n a1.Mask 0).bind fun (r3 : Bool) =>
  if r3 then
   F88_u5 n a0 a1 (Thing.mk g1.ID g1.At (A4.mk a1.F.a0 g1.F.a1 g1.F.a2 g1.F.a3))
  else
   F88_u5 n a0 a1 g1
theorem F88_j2_ok (n : Nat) (a0 : Thing) (a1 : Delta) (g1 : Thing) : Sim Try.prog D (n + 8) p88c30 [(2, qp 2 0), (3, qp 3 0), (4, qp 4 0)] (W0 g1 a1) (F88_j2 n a0 a1 g1) (QF false pc88_r 0 F88_e) := by
  unfold F88_j2
  refine Sim.seq (.seq (.rs (.rd 3 [(16, qj 0), (15, .agg (A4_Field.cells a1.F)), (14, qp 3 4)] [] (.thenN (.block (.loop (.succ (.seq (.rg [(2, qp 2 0), (3, qp 3 0), (4, qp 4 0), (15, .agg (A4_Field.cells a1.F)), (16, qj 0)] (W0 g1 a1) (.rd 1 [(17, qb true)] [] (.thenN (.seq (.ct (.skip (.thenN (.seq (.block (.sr 5 [(5, qj 0), (6, qp 6 0), (19, .agg (W17 a1)), (18, qj 0)] [(6, some (.cells (W17 a1))), (6, some (.cells [lj 0, ls be]))] (.st 3 [(22, qj 0), (21, .one (li .u8 a1.Mask)), (20, qp 3 1)] [] (.cl 23 true [[], []] 99 [21, 22] none (fun r3 => qb r3) [.one (li .u8 a1.Mask), qj 0] (F99_ok _ _ _) (fun r3 => ?_)))))))))))))))))))))
  refine SimI.dn (.thenN (.cd _ ?_ ?_))
  ·refine Sim.region0 (.rd 5 [(27, qp 2 3), (26, qp 2 3), (25, .agg (W17 a1)), (24, qj 0)] [(2, some (.cells (W22 g1 a1)))] (.blockN (.thenN (.region0 (.rd 2 [(16, qj 1), (28, qj 1)] [] (.loopN (.pr [2, 3, 4, 15, 16] [2, 3, 4, 6] [] (w7 a1) [(2, some (.cells (W22 g1 a1))), (3, some (.cells (Delta.cells a1))), (4, some (.cells W30))] ?_)))))))
   exact F88_u5_ok n a0 a1 (Thing.mk g1.ID g1.At (A4.mk a1.F.a0 g1.F.a1 g1.F.a2 g1.F.a3))
  ·refine Sim.skip (.blockN (.thenN (.region0 (.rd 2 [(16, qj 1), (28, qj 1)] [] (.loopN (.pr [2, 3, 4, 15, 16] [2, 3, 4, 6] [] (w7 a1) (W0 g1 a1) ?_))))))
   exact F88_u5_ok n a0 a1 g1
def F88 (n : Nat) (a0 : Thing) (a1 : Delta) : Option Thing :=
 if (bitsI .and .u8 a1.Mask 1) != 0 then
  F88_j2 n a0 a1 (Thing.mk a0.ID a1.At a0.F)
 else
  F88_j2 n a0 a1 a0
theorem F88_ok (n : Nat) (a0 : Thing) (a1 : Delta) : ∀ r, F88 n a0 a1 = some r → D 88 [.agg (Thing.cells a0), .agg (Delta.cells a1)] [] = some (F88_e r) := by
 refine fn_to (D := D) (n := n + 8) (nt := 30) (rs := pc88_r) (c := p88c32) (L := [(0, .agg (Thing.cells a0)), (1, .agg (Delta.cells a1))]) (M := []) (k := 0) rfl rfl rfl rfl rfl rfl rfl ?_
 unfold F88
 refine Sim.sr 3 [(4, qp 4 0), (3, qp 3 0), (2, qp 2 0)] [(4, some (.cells W30)), (3, some (.cells (Delta.cells a1))), (2, some (.cells (Thing.cells a0)))] (.seq (.sr 4 [(10, qb ((bitsI .and .u8 a1.Mask 1) != 0)), (9, .one (li .u8 (bitsI .and .u8 a1.Mask 1))), (8, .one (li .u8 a1.Mask)), (7, qp 3 1)] [] (.cd _ ?_ ?_)))
 ·refine Sim.region0 (.rd 4 [(13, qp 2 1), (12, .agg [lj a1.At.X, lj a1.At.Y]), (11, qp 3 2)] [(2, some (.cells (W23 a0 a1)))] (.thenN (.pr [2, 3, 4] [2, 3, 4] [] [(2, qp 2 0), (3, qp 3 0), (4, qp 4 0)] [(2, some (.cells (W23 a0 a1))), (3, some (.cells (Delta.cells a1))), (4, some (.cells W30))] ?_)))
  exact F88_j2_ok n a0 a1 (Thing.mk a0.ID a1.At a0.F)
 ·refine Sim.skip (.thenN (.pr [2, 3, 4] [2, 3, 4] [] [(2, qp 2 0), (3, qp 3 0), (4, qp 4 0)] (W0 a0 a1) ?_))
  exact F88_j2_ok n a0 a1 a0
def F51_e : ((List Thing) × Bool) → PV × List Ob := fun r => (.tup [.one (.osl 1000000 0 0 (r.1).length), .one (lb r.2)], [.arr 28 Thing.cod.sz 0 (r.1).length (getOf Thing.cod r.1)])
def F51 (n : Nat) (a0 : (List Thing)) (a1 : Event) : Option ((List Thing) × Bool) :=
 (F84s0 n a0 a1.ID).bind fun (r1 : (Int × Bool)) =>
 (F39 n a1).bind fun (r2 : Bool) =>
 if !(r2) then
  (cloneL a0).bind fun (l3 : (List Thing)) =>
  some (l3, false)
 else
  if r1.2 == (a1.Kind == 1) then
   (cloneL a0).bind fun (l4 : (List Thing)) =>
   some (l4, false)
  else
   (cloneL a0).bind fun (l5 : (List Thing)) =>
   if a1.Kind == 1 then
    (insL l5 r1.1 a1.Thing).bind fun (l6 : (List Thing)) =>
    some (l6, true)
   else
    if a1.Kind == 2 then
     (ix l5 r1.1).bind fun (x7 : Thing) =>
     (F88 n x7 a1.Delta).bind fun (r8 : Thing) =>
     (ix l5 r1.1).bind fun (x9 : Thing) =>
     some (((l5).set ((r1.1).toNat) r8), true)
    else
     (delL l5 r1.1 (IntKind.wrap .i64 (r1.1 + 1))).bind fun (l10 : (List Thing)) =>
     some (l10, true)
theorem F51_ok (n : Nat) (a0 : (List Thing)) (a1 : Event) : ∀ r, F51 n a0 a1 = some r → D 51 [.one (vw Thing.cod a0), .agg (Event.cells a1)] [] = some (F51_e r) := by
 refine fn_to (D := D) (n := n + 8) (nt := 58) (rs := pc51_r) (c := p51c30) (L := [(0, .one (vw Thing.cod a0)), (1, .agg (Event.cells a1))]) (M := []) (k := 0) rfl rfl rfl rfl rfl rfl rfl ?_
 unfold F51
 refine Sim.sr 3 [(5, qb false), (4, .one (lnil)), (3, qp 3 0)] [(3, some (.cells (Event.cells a1)))] (.st 3 [(12, qj a1.ID), (11, qp 3 1), (10, .one (vw Thing.cod a0))] [] (.bn ⟨some 13, .gcall false false W5 [[(0, 11)], [], []] 84 [10, 12, Operand.func 85], none, []⟩ (fun r1 => [(13, .tup [qj r1.1, qb r1.2])]) (fun r1 => []) (fun r1 hr => pe (gq (ks := []) (ARGS := [.one (vw Thing.cod a0), qj a1.ID, .one (.val (.func (.func 85) #[] #[]))]) (F84s0_ok _ _ _ _ hr))) (fun r1 => ?_)))
 refine SimI.rd 5 [(7, qb r1.2), (6, qj r1.1), (15, qb r1.2), (14, qj r1.1), (9, .tup [qj r1.1, qb r1.2])] [] (.thenN (.seq (.st 1 [(16, .agg (Event.cells a1))] [] (.cl 17 true [[]] 39 [16] none (fun r2 => qb r2) [.agg (Event.cells a1)] (F39_ok _ _) (fun r2 => ?_)))))
 refine SimI.rn 2 [(19, qb (!(r2))), (18, qb (!(r2)))] [] (.sp 19 _ ?_ ?_)
 ·refine SimI.rd 6 ([(25, qb true)] ++ rp [24, 23, 22, 21, 20] tz) [] (.thenN (.ct (.st 1 [(26, .one (vw Thing.cod a0))] [] (.bn ⟨some 27, .gcall false false W5 [[(0, 11)]] 78 [26], none, []⟩ (fun l3 => [(27, .one (.osl 300000 0 0 (l3).length))]) (fun l3 => (W2 l3)) (fun l3 hr => pe (eff_gcall (ks := []) (rks := []) (new := [300000]) (ARGS := [.one (vw Thing.cod a0)]) (args1 := [.one (vw Thing.cod a0)]) (args2 := [.one (vw Thing.cod a0)]) (os := []) (os' := [.arr 28 Thing.cod.sz 0 (l3).length (getOf Thing.cod l3)]) (os1 := [.arr 28 Thing.cod.sz 0 (l3).length (getOf Thing.cod l3)]) (res := .one (.osl 1000000 0 0 (l3).length)) (res1 := .one (.osl 1000000 0 0 (l3).length)) (r := .one (.osl 300000 0 0 (l3).length)) (N := (W2 l3)) (by kernel_rfl) (readA_ow (readA_keep (by kernel_rfl) (readA_nil))) (by kernel_rfl) (by kernel_rfl) (by kernel_rfl) (by kernel_rfl) (D_b78 (l := a0) (r := l3) hr) (by kernel_rfl) (by kernel_rfl) (by kernel_rfl) (by kernel_rfl) (by kernel_rfl) (by kernel_rfl) (by kernel_rfl))) (fun l3 => ?_)))))
  exact SimI.rd 2 (W29 l3) [] (.thenN (.ret (.thenR .fn)))
 ·refine SimI.rd 6 (rp [25, 24] (qb (r1.2 == (a1.Kind == 1))) ++ [(23, qb (a1.Kind == 1)), (22, qj a1.Kind), (21, qp 3 0), (20, qb r1.2)]) [] (.thenN (.cd _ ?_ ?_))
  ·refine Sim.st 1 [(26, .one (vw Thing.cod a0))] [] (.bn ⟨some 27, .gcall false false W5 [[(0, 11)]] 78 [26], none, []⟩ (fun l4 => [(27, .one (.osl 300000 0 0 (l4).length))]) (fun l4 => (W2 l4)) (fun l4 hr => pe (eff_gcall (ks := []) (rks := []) (new := [300000]) (ARGS := [.one (vw Thing.cod a0)]) (args1 := [.one (vw Thing.cod a0)]) (args2 := [.one (vw Thing.cod a0)]) (os := []) (os' := [.arr 28 Thing.cod.sz 0 (l4).length (getOf Thing.cod l4)]) (os1 := [.arr 28 Thing.cod.sz 0 (l4).length (getOf Thing.cod l4)]) (res := .one (.osl 1000000 0 0 (l4).length)) (res1 := .one (.osl 1000000 0 0 (l4).length)) (r := .one (.osl 300000 0 0 (l4).length)) (N := (W2 l4)) (by kernel_rfl) (readA_ow (readA_keep (by kernel_rfl) (readA_nil))) (by kernel_rfl) (by kernel_rfl) (by kernel_rfl) (by kernel_rfl) (D_b78 (l := a0) (r := l4) hr) (by kernel_rfl) (by kernel_rfl) (by kernel_rfl) (by kernel_rfl) (by kernel_rfl) (by kernel_rfl) (by kernel_rfl))) (fun l4 => ?_))
   exact SimI.rd 2 (W29 l4) [] (.thenN (.ret (.thenR .fn)))
  ·refine Sim.skip (.thenN (.st 1 [(28, .one (vw Thing.cod a0))] [] (.bn ⟨some 29, .gcall false false W5 [[(0, 11)]] 78 [28], none, []⟩ (fun l5 => [(29, .one (.osl 300000 0 0 (l5).length))]) (fun l5 => (W2 l5)) (fun l5 hr => pe (eff_gcall (ks := []) (rks := []) (new := [300000]) (ARGS := [.one (vw Thing.cod a0)]) (args1 := [.one (vw Thing.cod a0)]) (args2 := [.one (vw Thing.cod a0)]) (os := []) (os' := [.arr 28 Thing.cod.sz 0 (l5).length (getOf Thing.cod l5)]) (os1 := [.arr 28 Thing.cod.sz 0 (l5).length (getOf Thing.cod l5)]) (res := .one (.osl 1000000 0 0 (l5).length)) (res1 := .one (.osl 1000000 0 0 (l5).length)) (r := .one (.osl 300000 0 0 (l5).length)) (N := (W2 l5)) (by kernel_rfl) (readA_ow (readA_keep (by kernel_rfl) (readA_nil))) (by kernel_rfl) (by kernel_rfl) (by kernel_rfl) (by kernel_rfl) (D_b78 (l := a0) (r := l5) hr) (by kernel_rfl) (by kernel_rfl) (by kernel_rfl) (by kernel_rfl) (by kernel_rfl) (by kernel_rfl) (by kernel_rfl))) (fun l5 => ?_))))
   refine SimI.rd 1 [(8, .one (.osl 300000 0 0 (l5).length))] [] (.thenN (.seq (.sr 2 [(31, qj a1.Kind), (30, qp 3 0)] [] (.block (.sr 2 (rp [37, 38] (qb (a1.Kind == 1))) [] (.cd _ ?_ ?_))))))
   ·refine Sim.region0 (.rn 5 [(43, .one (.csl 43 11 0 1)), (42, .agg (Thing.cells a1.Thing)), (41, qp 3 2), (40, qj r1.1), (39, .one (.osl 300000 0 0 (l5).length))] [(43, some (.cells (Thing.cells a1.Thing)))] (.bn ⟨some 44, .gcall true false [43, 300000, 300001, 300002, 300003, 300004, 300005, 300006, 300007] [[(0, 11)], [], [(0, 11)]] 87 [39, 40, 43], none, []⟩ (fun l6 => [(44, .one (.osl 300000 (0 + 1) 0 (l6).length))]) (fun l6 => [(300000, some (.arr 28 Thing.cod.sz (0 + 1) (l6).length (getOf Thing.cod l6))), (43, some (.cells (Thing.cells a1.Thing)))]) (fun l6 hr => pe (gq (ks := [300000, 43]) (ARGS := [.one (.osl 300000 0 0 (l5).length), qj r1.1, .one (.csl 43 11 0 1)]) (D_b87 (l := l5) (i := r1.1) (a := a1.Thing) (r := l6) hr))) (fun l6 => ?_)))
    exact SimI.rd 1 [(8, .one (.osl 300000 (0 + 1) 0 (l6).length))] [] (.blockN (.thenN (.sr 3 ([(5, qb true)] ++ rp [4, 57] (.one (.osl 300000 (0 + 1) 0 (l6).length))) [] (.ret .fn))))
   ·refine Sim.sr 2 (rp [45, 46] (qb (a1.Kind == 2))) [] (.cd _ ?_ ?_)
    ·refine Sim.region0 (.rn 4 [(50, qj r1.1), (49, .one (.osl 300000 0 0 (l5).length)), (48, qj r1.1), (47, .one (.osl 300000 0 0 (l5).length))] [] (.bindh (og := ix l5 r1.1) ⟨some 51, .iaddrS 11 49 50, none, [(49, Hint.obj 300000), (50, .imm)]⟩ (fun x7 => [(51, .one (.aptr 300000 0 ((r1.1).toNat) 0))]) (fun x7 => []) (by kernel_rfl) (fun x7 hr => pe (eff_idxO (c := Thing.cod) (l := l5) (g := 0) (el := 28) (k := .i64) (n := r1.1) (by kernel_rfl) (by kernel_rfl) (by kernel_rfl) (by kernel_rfl) hr)) (fun x7 hx7 => ?_)))
     refine SimI.se ⟨some 52, .load true 11 51, none, [(51, Hint.obj 300000)]⟩ [(52, .agg (Thing.cells x7))] [] (pe (eff_loadO (c := Thing.cod) (a := x7) (l := l5) (key := 300000) (g := 0) (el := 28) (off := 0) (i := (r1.1).toNat) (by kernel_rfl) (by kernel_rfl) (ix_some hx7).2.2.2 (by kernel_rfl))) (.rn 2 [(54, .agg (Delta.cells a1.Delta)), (53, qp 3 13)] [] (.cm 55 false [[], []] 88 [52, 54] none [(52, .imm), (54, .imm)] (F88_ok _ _ _) (fun r8 => ?_)))
     refine SimI.bindh (og := ix l5 r1.1) ⟨some 56, .iaddrS 11 47 48, none, [(47, Hint.obj 300000), (48, .imm)]⟩ (fun x9 => [(56, .one (.aptr 300000 0 ((r1.1).toNat) 0))]) (fun x9 => []) (by kernel_rfl) (fun x9 hr => pe (eff_idxO (c := Thing.cod) (l := l5) (g := 0) (el := 28) (k := .i64) (n := r1.1) (by kernel_rfl) (by kernel_rfl) (by kernel_rfl) (by kernel_rfl) hr)) (fun x9 hx9 => ?_)
     exact SimI.se ⟨none, .store 11 56 55, none, [(56, Hint.obj 300000), (55, .imm)]⟩ [] [(300000, some (.arr 28 Thing.cod.sz 0 (((l5).set ((r1.1).toNat) r8)).length (getOf Thing.cod ((l5).set ((r1.1).toNat) r8))))] (pOp_eff_ (by kernel_rfl) (by kernel_rfl) (eff_storeO (c := Thing.cod) (key := 300000) (g := 0) (el := 28) (l := l5) (i := (r1.1).toNat) (b := r8) (by kernel_rfl) (by kernel_rfl) (by kernel_rfl) (ix_some hx9).2.2.1 (fun _ => rfl) rfl (by kernel_rfl))) (.slot 8 (.one (.osl 300000 0 0 (((l5).set ((r1.1).toNat) r8)).length)) (Eq.trans (b := PV.one (.osl 300000 0 0 (l5).length)) (by kernel_rfl) (congrArg (fun z => PV.one (Lf.osl 300000 0 0 z)) List.length_set.symm)) (.dn (.blockN (.thenN (.sr 3 ([(5, qb true)] ++ rp [4, 57] (.one (.osl 300000 0 0 (((l5).set ((r1.1).toNat) r8)).length))) [] (.ret .fn))))))
    ·refine Sim.region0 (.rn 4 [(35, qj (iw .i64 (r1.1 + 1))), (34, qj r1.1), (33, qj r1.1), (32, .one (.osl 300000 0 0 (l5).length))] [] (.bn ⟨some 36, .gcall true false W5 [[(0, 11)], [], []] 89 [32, 33, 35], none, []⟩ (fun l10 => [(36, .one (.osl 300000 (0 + 1) 0 (l10).length))]) (fun l10 => [(300000, some (.arr 28 Thing.cod.sz (0 + 1) (l10).length (getOf Thing.cod l10)))]) (fun l10 hr => pe (gq (ks := [300000]) (ARGS := [.one (.osl 300000 0 0 (l5).length), qj r1.1, qj (iw .i64 (r1.1 + 1))]) (D_b89 (l := l5) (i := r1.1) (j := IntKind.wrap .i64 (r1.1 + 1)) (r := l10) hr))) (fun l10 => ?_)))
     exact SimI.rd 1 [(8, .one (.osl 300000 (0 + 1) 0 (l10).length))] [] (.blockN (.thenN (.sr 3 ([(5, qb true)] ++ rp [4, 57] (.one (.osl 300000 (0 + 1) 0 (l10).length))) [] (.ret .fn))))
def F40_e : ((List Thing) × Bool) → PV × List Ob := fun r => (.tup [.one (.osl 1000000 0 0 (r.1).length), .one (lb r.2)], [.arr 28 Thing.cod.sz 0 (r.1).length (getOf Thing.cod r.1)])
def F40_j16 (n : Nat) (a0 l14 : (List Thing)) (b15 : Bool) : Option ((List Thing) × Bool) :=
  if !(b15) then
   (cloneL a0).bind fun (l17 : (List Thing)) =>
   some (l17, false)
  else
   some (l14, true)
theorem F40_j16_ok (n : Nat) (a0 l14 : (List Thing)) (b15 : Bool) : Sim Try.prog D (n + 8) p40c36 [(0, .one (vw Thing.cod a0)), (6, .one (.osl 300001 0 0 (l14).length)), (7, qb b15)] [(300001, some (.arr 28 Thing.cod.sz 0 (l14).length (getOf Thing.cod l14)))] (F40_j16 n a0 l14 b15) (QF true pc40_r 0 F40_e) := by
  unfold F40_j16
  refine Sim.seq (.seq (.rs (.rd 2 [(28, qb (!(b15))), (27, qb b15)] [] (.thenN (.cd _ ?_ ?_)))))
  ·refine Sim.st 1 [(29, .one (vw Thing.cod a0))] [] (.bn ⟨some 30, .gcall false false W5 [[(0, 11)]] 78 [29], none, []⟩ (fun l17 => [(30, .one (.osl 300000 0 0 (l17).length))]) (fun l17 => (W2 l17)) (fun l17 hr => pe (eff_gcall (ks := []) (rks := []) (new := [300000]) (ARGS := [.one (vw Thing.cod a0)]) (args1 := [.one (vw Thing.cod a0)]) (args2 := [.one (vw Thing.cod a0)]) (os := []) (os' := [.arr 28 Thing.cod.sz 0 (l17).length (getOf Thing.cod l17)]) (os1 := [.arr 28 Thing.cod.sz 0 (l17).length (getOf Thing.cod l17)]) (res := .one (.osl 1000000 0 0 (l17).length)) (res1 := .one (.osl 1000000 0 0 (l17).length)) (r := .one (.osl 300000 0 0 (l17).length)) (N := (W2 l17)) (by kernel_rfl) (readA_ow (readA_keep (by kernel_rfl) (readA_nil))) (by kernel_rfl) (by kernel_rfl) (by kernel_rfl) (by kernel_rfl) (D_b78 (l := a0) (r := l17) hr) (by kernel_rfl) (by kernel_rfl) (by kernel_rfl) (by kernel_rfl) (by kernel_rfl) (by kernel_rfl) (by kernel_rfl))) (fun l17 => ?_))
   exact SimI.rd 2 (W29 l17) [] (.thenN (.ret (.thenR .fn)))
  ·exact Sim.skip (.thenN (.sr 3 ([(5, qb true)] ++ rp [4, 31] (.one (.osl 300001 0 0 (l14).length))) [] (.ret .fn)))
def F40_l11 (n : Nat) (a0 : (List Thing)) (a1 : (List Event)) : Nat → (List Thing) → Bool → Int → Option ((List Thing) × Bool)
 | 0, _, _, _ => none
 | m + 1, l8, b9, i10 =>
  if decide (i10 < ((a1).length : Int)) then
   (ix a1 i10).bind fun (x12 : Event) =>
   (F51 n l8 x12).bind fun (r13 : ((List Thing) × Bool)) =>
   if !(r13.2) then
    F40_j16 n a0 r13.1 r13.2
   else
    (F40_l11 n a0 a1 m) r13.1 r13.2 (IntKind.wrap .i64 (i10 + 1))
  else
   F40_j16 n a0 l8 b9
theorem F40_l11_ok (n : Nat) (a0 : (List Thing)) (a1 : (List Event)) : ∀ (m : Nat) (l8 : (List Thing)) (b9 : Bool) (i10 : Int), SimL Try.prog D (n + 8) m p40c22 [(0, .one (vw Thing.cod a0)), (6, .one (.osl 300000 0 0 (l8).length)), (7, qb b9), (12, .one (vw Event.cod a1)), (13, qj ((a1).length : Int)), (14, qj i10)] (W2 l8) (F40_l11 n a0 a1 m l8 b9 i10) (QB 0 (QT Try.prog D (n + 8) p40c36 (QF true pc40_r 0 F40_e))) := by
 intro m_l11
 induction m_l11 with
 | zero => intro l8 b9 i10; exact SimL.zero'  rfl
 | succ m_l11 ih_l11 =>
  intro l8 b9 i10
  refine SimL.succ ?_
  unfold F40_l11
  refine Sim.seq (.rg [(0, .one (vw Thing.cod a0)), (6, .one (.osl 300000 0 0 (l8).length)), (7, qb b9), (12, .one (vw Event.cod a1)), (13, qj ((a1).length : Int)), (14, qj i10)] (W2 l8) (.rd 1 [(15, qb (decide (i10 < ((a1).length : Int))))] [] (.thenN (.seq (.cd _ ?_ ?_)))))
  ·refine Sim.skip (.thenN (.seq (.block (.seq (.region0 (.bn ⟨some 16, .iaddrS 25 12 14, none, []⟩ (fun x12 => [(16, .one (.eptr (Event.cod.enc x12) 0))]) (fun x12 => []) (fun x12 hr => pe (ei (c := Event.cod) (k := .i64) hr)) (fun x12 => ?_)))))))
   refine SimI.rd 3 [(9, qp 9 0), (17, .agg (Event.cells x12))] [(9, some (.cells (Event.cells x12))), (9, some (.cells [lj 0, lj 0, lj 0, lj 0, lj 0, lj 0, ls be, lj 0, ls be, lj 0, ls be, lj 0, ls be, lj 0, li .u8 0, lj 0, lj 0, lj 0, ls be, lj 0, ls be, lj 0, ls be, lj 0, ls be]))] (.thenN (.st 2 [(20, .agg (Event.cells x12)), (19, .one (.osl 300000 0 0 (l8).length))] [] (.bn ⟨some 21, .gcall false false [300000, 300001, 300002, 300003, 300004, 300005, 300006, 300007, 399990, 399991] [[(0, 11)], []] 51 [19, 20], none, []⟩ (fun r13 => [(21, .tup (W13 r13))]) (fun r13 => (W11 r13)) (fun r13 hr => pe (eff_gcall (ks := []) (rks := [300000]) (new := [300001]) (ARGS := [.one (.osl 300000 0 0 (l8).length), .agg (Event.cells x12)]) (args1 := [.one (vw Thing.cod l8), .agg (Event.cells x12)]) (args2 := [.one (vw Thing.cod l8), .agg (Event.cells x12)]) (os := []) (os' := [.arr 28 Thing.cod.sz 0 (r13.1).length (getOf Thing.cod r13.1)]) (os1 := [.arr 28 Thing.cod.sz 0 (r13.1).length (getOf Thing.cod r13.1)]) (res := .tup (W10 r13)) (res1 := .tup (W10 r13)) (r := .tup (W13 r13)) (N := (W11 r13)) (by kernel_rfl) (readA_ow (readA_own (c := Thing.cod) (k := 300000) (g := 0) (el := 28) (l := l8) (by kernel_rfl) (readA_agg (by kernel_rfl) (readA_nil)))) (by kernel_rfl) (by kernel_rfl) (by kernel_rfl) (by kernel_rfl) (F51_ok _ _ _ _ hr) (flat_rowP (c := Thing.cod) (by kernel_rfl) (fun _ => by kernel_rfl) r13.1) (by kernel_rfl) (by kernel_rfl) rfl (by kernel_rfl) (by kernel_rfl) (by kernel_rfl))) (fun r13 => ?_))))
   refine SimI.rd 5 [(7, qb r13.2), (6, .one (.osl 300001 0 0 (r13.1).length)), (23, qb r13.2), (22, .one (.osl 300001 0 0 (r13.1).length)), (18, .tup (W13 r13))] [] (.thenN (.sr 2 [(25, qb (!(r13.2))), (24, qb r13.2)] [] (.cd _ ?_ ?_)))
   ·refine Sim.exit (.blockY rfl (.thenX (.loopX (.blockX (.thenN (.pr [0, 6, 7] [9, 300000, 300001] [(false, 300000, 0, 300001, 1000000000, 1)] [(0, .one (vw Thing.cod a0)), (6, .one (.osl 300001 0 0 (r13.1).length)), (7, qb r13.2)] (W11 r13) ?_))))))
    exact F40_j16_ok n a0 r13.1 r13.2
   ·refine Sim.skip (.blockN (.thenN (.region0 (.rd 2 (rp [14, 26] (qj (iw .i64 (i10 + 1)))) [] (.loopN (.pr [0, 6, 7, 12, 13, 14] [9, 300000, 300001] [(false, 300001, 0, 300000, 1000000000, 1)] [(0, .one (vw Thing.cod a0)), (6, .one (.osl 300000 0 0 (r13.1).length)), (7, qb r13.2), (12, .one (vw Event.cod a1)), (13, qj ((a1).length : Int)), (14, qj (iw .i64 (i10 + 1)))] (W26 r13) ?_))))))
    exact ih_l11 r13.1 r13.2 (iw .i64 (i10 + 1))
  ·refine Sim.exit (.thenX (.loopX (.blockX (.thenN (.pr [0, 6, 7] [9, 300000, 300001] [(false, 300000, 0, 300001, 1000000000, 1)] [(0, .one (vw Thing.cod a0)), (6, .one (.osl 300001 0 0 (l8).length)), (7, qb b9)] [(300001, some (.arr 28 Thing.cod.sz 0 (l8).length (getOf Thing.cod l8)))] ?_)))))
   exact F40_j16_ok n a0 l8 b9
def F40 (n : Nat) (a0 : (List Thing)) (a1 : (List Event)) : Option ((List Thing) × Bool) :=
 (cloneL a0).bind fun (l1 : (List Thing)) =>
 F40_l11 n a0 a1 (n + 8) l1 true 0
theorem F40_ok (n : Nat) (a0 : (List Thing)) (a1 : (List Event)) : ∀ r, F40 n a0 a1 = some r → D 40 [.one (vw Thing.cod a0), .one (vw Event.cod a1)] [] = some (F40_e r) := by
 refine fn_to (D := D) (n := n + 8) (nt := 32) (rs := pc40_r) (c := p40c41) (L := [(0, .one (vw Thing.cod a0)), (1, .one (vw Event.cod a1))]) (M := []) (k := 0) rfl rfl rfl rfl rfl rfl rfl ?_
 unfold F40
 refine Sim.sr 2 [(5, qb false), (4, .one (lnil))] [] (.scope (.st 1 [(10, .one (vw Thing.cod a0))] [] (.bn ⟨some 11, .gcall false false W5 [[(0, 11)]] 78 [10], none, []⟩ (fun l1 => [(11, .one (.osl 300000 0 0 (l1).length))]) (fun l1 => (W2 l1)) (fun l1 hr => pe (eff_gcall (ks := []) (rks := []) (new := [300000]) (ARGS := [.one (vw Thing.cod a0)]) (args1 := [.one (vw Thing.cod a0)]) (args2 := [.one (vw Thing.cod a0)]) (os := []) (os' := [.arr 28 Thing.cod.sz 0 (l1).length (getOf Thing.cod l1)]) (os1 := [.arr 28 Thing.cod.sz 0 (l1).length (getOf Thing.cod l1)]) (res := .one (.osl 1000000 0 0 (l1).length)) (res1 := .one (.osl 1000000 0 0 (l1).length)) (r := .one (.osl 300000 0 0 (l1).length)) (N := (W2 l1)) (by kernel_rfl) (readA_ow (readA_keep (by kernel_rfl) (readA_nil))) (by kernel_rfl) (by kernel_rfl) (by kernel_rfl) (by kernel_rfl) (D_b78 (l := a0) (r := l1) hr) (by kernel_rfl) (by kernel_rfl) (by kernel_rfl) (by kernel_rfl) (by kernel_rfl) (by kernel_rfl) (by kernel_rfl))) (fun l1 => ?_))))
 refine SimI.rd 2 [(7, qb true), (6, .one (.osl 300000 0 0 (l1).length))] [] (.thenN (.seq (.label (.thenN (.seq (.sr 3 [(14, qj 0), (13, qj ((a1).length : Int)), (12, .one (vw Event.cod a1))] [] (.block (.loop (.pr [0, 6, 7, 12, 13, 14] [9, 300000, 300001] [(false, 300001, 0, 300000, 1000000000, 1)] [(0, .one (vw Thing.cod a0)), (6, .one (.osl 300000 0 0 (l1).length)), (7, qb true), (12, .one (vw Event.cod a1)), (13, qj ((a1).length : Int)), (14, qj 0)] (W2 l1) ?_)))))))))
 exact F40_l11_ok n a0 a1 (n + 8) l1 true 0
theorem F42_ok (n : Nat) : ∀ r, (some true : Option Bool) = some r → D 42 [] [] = some (.one (lb r), []) := by
 rintro _ ⟨⟩
 exact all_of (N := 60) (by kernel_rfl)
def F14_e : Bool → PV × List Ob := fun r => (.one (lb r), [])
def F14_j13 (n : Nat) (a0 : Int) (l6 : (List Event)) (r10 : ((List Thing) × Bool)) (i12 : Int) : Option Bool :=
  if ((l6).length + 1) * 264 ≤ maxCells ∧ (l6).length + 1 ≤ maxCells then
   (F40 n [] (l6 ++ [(Event.mk 3 (IntKind.wrap .i64 a0) (Thing.mk 0 (Point.mk 0 0) (A4.mk (Field.mk 0 ByteArray.empty) (Field.mk 0 ByteArray.empty) (Field.mk 0 ByteArray.empty) (Field.mk 0 ByteArray.empty))) (Delta.mk 0 0 (Point.mk 0 0) (A4.mk (Field.mk 0 ByteArray.empty) (Field.mk 0 ByteArray.empty) (Field.mk 0 ByteArray.empty) (Field.mk 0 ByteArray.empty))))])).bind fun (r14 : ((List Thing) × Bool)) =>
   (ix (l6 ++ [(Event.mk 3 (IntKind.wrap .i64 a0) (Thing.mk 0 (Point.mk 0 0) (A4.mk (Field.mk 0 ByteArray.empty) (Field.mk 0 ByteArray.empty) (Field.mk 0 ByteArray.empty) (Field.mk 0 ByteArray.empty))) (Delta.mk 0 0 (Point.mk 0 0) (A4.mk (Field.mk 0 ByteArray.empty) (Field.mk 0 ByteArray.empty) (Field.mk 0 ByteArray.empty) (Field.mk 0 ByteArray.empty))))]) 0).bind fun (x15 : Event) =>
   ((if 0 < ((l6 ++ [(Event.mk 3 (IntKind.wrap .i64 a0) (Thing.mk 0 (Point.mk 0 0) (A4.mk (Field.mk 0 ByteArray.empty) (Field.mk 0 ByteArray.empty) (Field.mk 0 ByteArray.empty) (Field.mk 0 ByteArray.empty))) (Delta.mk 0 0 (Point.mk 0 0) (A4.mk (Field.mk 0 ByteArray.empty) (Field.mk 0 ByteArray.empty) (Field.mk 0 ByteArray.empty) (Field.mk 0 ByteArray.empty))))])).length ∧ (((l6 ++ [(Event.mk 3 (IntKind.wrap .i64 a0) (Thing.mk 0 (Point.mk 0 0) (A4.mk (Field.mk 0 ByteArray.empty) (Field.mk 0 ByteArray.empty) (Field.mk 0 ByteArray.empty) (Field.mk 0 ByteArray.empty))) (Delta.mk 0 0 (Point.mk 0 0) (A4.mk (Field.mk 0 ByteArray.empty) (Field.mk 0 ByteArray.empty) (Field.mk 0 ByteArray.empty) (Field.mk 0 ByteArray.empty))))])).length + 1) * 264 ≤ maxCells ∧ ((l6 ++ [(Event.mk 3 (IntKind.wrap .i64 a0) (Thing.mk 0 (Point.mk 0 0) (A4.mk (Field.mk 0 ByteArray.empty) (Field.mk 0 ByteArray.empty) (Field.mk 0 ByteArray.empty) (Field.mk 0 ByteArray.empty))) (Delta.mk 0 0 (Point.mk 0 0) (A4.mk (Field.mk 0 ByteArray.empty) (Field.mk 0 ByteArray.empty) (Field.mk 0 ByteArray.empty) (Field.mk 0 ByteArray.empty))))])).length + 1 ≤ maxCells then F40 n [] ((l6 ++ [(Event.mk 3 (IntKind.wrap .i64 a0) (Thing.mk 0 (Point.mk 0 0) (A4.mk (Field.mk 0 ByteArray.empty) (Field.mk 0 ByteArray.empty) (Field.mk 0 ByteArray.empty) (Field.mk 0 ByteArray.empty))) (Delta.mk 0 0 (Point.mk 0 0) (A4.mk (Field.mk 0 ByteArray.empty) (Field.mk 0 ByteArray.empty) (Field.mk 0 ByteArray.empty) (Field.mk 0 ByteArray.empty))))]) ++ [x15]) else none)).bind fun (r16 : ((List Thing) × Bool)) =>
   (ix (l6 ++ [(Event.mk 3 (IntKind.wrap .i64 a0) (Thing.mk 0 (Point.mk 0 0) (A4.mk (Field.mk 0 ByteArray.empty) (Field.mk 0 ByteArray.empty) (Field.mk 0 ByteArray.empty) (Field.mk 0 ByteArray.empty))) (Delta.mk 0 0 (Point.mk 0 0) (A4.mk (Field.mk 0 ByteArray.empty) (Field.mk 0 ByteArray.empty) (Field.mk 0 ByteArray.empty) (Field.mk 0 ByteArray.empty))))]) (IntKind.wrap .i64 ((((l6 ++ [(Event.mk 3 (IntKind.wrap .i64 a0) (Thing.mk 0 (Point.mk 0 0) (A4.mk (Field.mk 0 ByteArray.empty) (Field.mk 0 ByteArray.empty) (Field.mk 0 ByteArray.empty) (Field.mk 0 ByteArray.empty))) (Delta.mk 0 0 (Point.mk 0 0) (A4.mk (Field.mk 0 ByteArray.empty) (Field.mk 0 ByteArray.empty) (Field.mk 0 ByteArray.empty) (Field.mk 0 ByteArray.empty))))])).length : Int) - 1))).bind fun (x17 : Event) =>
   ((if 0 < ((l6 ++ [(Event.mk 3 (IntKind.wrap .i64 a0) (Thing.mk 0 (Point.mk 0 0) (A4.mk (Field.mk 0 ByteArray.empty) (Field.mk 0 ByteArray.empty) (Field.mk 0 ByteArray.empty) (Field.mk 0 ByteArray.empty))) (Delta.mk 0 0 (Point.mk 0 0) (A4.mk (Field.mk 0 ByteArray.empty) (Field.mk 0 ByteArray.empty) (Field.mk 0 ByteArray.empty) (Field.mk 0 ByteArray.empty))))])).length ∧ (((l6 ++ [(Event.mk 3 (IntKind.wrap .i64 a0) (Thing.mk 0 (Point.mk 0 0) (A4.mk (Field.mk 0 ByteArray.empty) (Field.mk 0 ByteArray.empty) (Field.mk 0 ByteArray.empty) (Field.mk 0 ByteArray.empty))) (Delta.mk 0 0 (Point.mk 0 0) (A4.mk (Field.mk 0 ByteArray.empty) (Field.mk 0 ByteArray.empty) (Field.mk 0 ByteArray.empty) (Field.mk 0 ByteArray.empty))))])).length + 1) * 264 ≤ maxCells ∧ ((l6 ++ [(Event.mk 3 (IntKind.wrap .i64 a0) (Thing.mk 0 (Point.mk 0 0) (A4.mk (Field.mk 0 ByteArray.empty) (Field.mk 0 ByteArray.empty) (Field.mk 0 ByteArray.empty) (Field.mk 0 ByteArray.empty))) (Delta.mk 0 0 (Point.mk 0 0) (A4.mk (Field.mk 0 ByteArray.empty) (Field.mk 0 ByteArray.empty) (Field.mk 0 ByteArray.empty) (Field.mk 0 ByteArray.empty))))])).length + 1 ≤ maxCells then F40 n [] ((l6 ++ [(Event.mk 3 (IntKind.wrap .i64 a0) (Thing.mk 0 (Point.mk 0 0) (A4.mk (Field.mk 0 ByteArray.empty) (Field.mk 0 ByteArray.empty) (Field.mk 0 ByteArray.empty) (Field.mk 0 ByteArray.empty))) (Delta.mk 0 0 (Point.mk 0 0) (A4.mk (Field.mk 0 ByteArray.empty) (Field.mk 0 ByteArray.empty) (Field.mk 0 ByteArray.empty) (Field.mk 0 ByteArray.empty))))]) ++ [x17]) else none)).bind fun (r18 : ((List Thing) × Bool)) =>
   if r10.2 then
    if ((r10.1).length : Int) == 1 then
     (ix r10.1 0).bind fun (x19 : Thing) =>
     if x19.At.X == i12 then
      if r14.2 then
       if ((r14.1).length : Int) == 0 then
        if r16.2 then
         if ((r16.1).length : Int) == 1 then
          some (!(r18.2))
         else
          some false
        else
         some false
       else
        some false
      else
       some false
     else
      some false
    else
     some false
   else
    some false
  else none
theorem F14_j13_ok (n : Nat) (a0 : Int) (l6 : (List Event)) (r10 : ((List Thing) × Bool)) (i12 : Int) : Sim Try.prog D (n + 8) p14c50 [(5, qj (IntKind.wrap .i64 a0)), (7, .one (.osl 30 0 0 (l6).length)), (9, .one (.osl 300000 0 0 (r10.1).length)), (10, qb r10.2), (11, qj i12)] (W6 l6 r10) (F14_j13 n a0 l6 r10 i12) (QF false pc14_r 0 F14_e) := by
  unfold F14_j13
  refine Sim.seq (.rg [(5, qj (iw .i64 a0)), (7, .one (.osl 30 0 0 (l6).length)), (9, .one (.osl 300000 0 0 (r10.1).length)), (10, qb r10.2), (11, qj i12)] (W6 l6 r10) (.rn 4 [(70, .one (vw Event.cod [(Event.mk 3 (iw .i64 a0) (Thing.mk 0 (Point.mk 0 0) (A4.mk (Field.mk 0 be) (Field.mk 0 be) (Field.mk 0 be) (Field.mk 0 be))) (Delta.mk 0 0 (Point.mk 0 0) (A4.mk (Field.mk 0 be) (Field.mk 0 be) (Field.mk 0 be) (Field.mk 0 be))))])), (69, .agg [lj 3, lj (iw .i64 a0), lj 0, lj 0, lj 0, lj 0, ls be, lj 0, ls be, lj 0, ls be, lj 0, ls be, lj 0, li .u8 0, lj 0, lj 0, lj 0, ls be, lj 0, ls be, lj 0, ls be, lj 0, ls be]), (68, qj (iw .i64 a0)), (67, .one (.osl 30 0 0 (l6).length))] [] (.gu ⟨some 71, .app 100030 67 25 264 67 70, none, []⟩ [(71, .one (.osl 30 (0 + 1) 0 ((l6 ++ [(Event.mk 3 (iw .i64 a0) (Thing.mk 0 (Point.mk 0 0) (A4.mk (Field.mk 0 be) (Field.mk 0 be) (Field.mk 0 be) (Field.mk 0 be))) (Delta.mk 0 0 (Point.mk 0 0) (A4.mk (Field.mk 0 be) (Field.mk 0 be) (Field.mk 0 be) (Field.mk 0 be))))])).length))] [(30, some (.arr 67 Event.cod.sz (0 + 1) ((l6 ++ [(Event.mk 3 (iw .i64 a0) (Thing.mk 0 (Point.mk 0 0) (A4.mk (Field.mk 0 be) (Field.mk 0 be) (Field.mk 0 be) (Field.mk 0 be))) (Delta.mk 0 0 (Point.mk 0 0) (A4.mk (Field.mk 0 be) (Field.mk 0 be) (Field.mk 0 be) (Field.mk 0 be))))])).length (getOf Event.cod (l6 ++ [(Event.mk 3 (iw .i64 a0) (Thing.mk 0 (Point.mk 0 0) (A4.mk (Field.mk 0 be) (Field.mk 0 be) (Field.mk 0 be) (Field.mk 0 be))) (Delta.mk 0 0 (Point.mk 0 0) (A4.mk (Field.mk 0 be) (Field.mk 0 be) (Field.mk 0 be) (Field.mk 0 be))))]))))] (fun hc => pe (eff_appO (c := Event.cod) (g := 0) (l := l6) (a := (Event.mk 3 (iw .i64 a0) (Thing.mk 0 (Point.mk 0 0) (A4.mk (Field.mk 0 be) (Field.mk 0 be) (Field.mk 0 be) (Field.mk 0 be))) (Delta.mk 0 0 (Point.mk 0 0) (A4.mk (Field.mk 0 be) (Field.mk 0 be) (Field.mk 0 be) (Field.mk 0 be))))) (by kernel_rfl) (by kernel_rfl) (by kernel_rfl) (by kernel_rfl) hc)) (.rd 1 [(7, .one (.osl 30 (0 + 1) 0 ((l6 ++ [(Event.mk 3 (iw .i64 a0) (Thing.mk 0 (Point.mk 0 0) (A4.mk (Field.mk 0 be) (Field.mk 0 be) (Field.mk 0 be) (Field.mk 0 be))) (Delta.mk 0 0 (Point.mk 0 0) (A4.mk (Field.mk 0 be) (Field.mk 0 be) (Field.mk 0 be) (Field.mk 0 be))))])).length))] [] (.thenN (.st 1 [(73, .one (.osl 30 (0 + 1) 0 ((l6 ++ [(Event.mk 3 (iw .i64 a0) (Thing.mk 0 (Point.mk 0 0) (A4.mk (Field.mk 0 be) (Field.mk 0 be) (Field.mk 0 be) (Field.mk 0 be))) (Delta.mk 0 0 (Point.mk 0 0) (A4.mk (Field.mk 0 be) (Field.mk 0 be) (Field.mk 0 be) (Field.mk 0 be))))])).length))] [] (.bn ⟨some 74, .gcall false false W27 [[(0, 11)], [(0, 25)]] 40 [Operand.const (Value.slice none 0 0), 73], none, []⟩ (fun r14 => [(74, .tup (W13 r14))]) (fun r14 => (W11 r14)) (fun r14 hr => pe (eff_gcall (ks := []) (rks := [30]) (new := [300001]) (ARGS := [.one (vw Thing.cod ([] : List Thing)), .one (.osl 30 (0 + 1) 0 ((l6 ++ [(Event.mk 3 (iw .i64 a0) (Thing.mk 0 (Point.mk 0 0) (A4.mk (Field.mk 0 be) (Field.mk 0 be) (Field.mk 0 be) (Field.mk 0 be))) (Delta.mk 0 0 (Point.mk 0 0) (A4.mk (Field.mk 0 be) (Field.mk 0 be) (Field.mk 0 be) (Field.mk 0 be))))])).length)]) (args1 := (W8 l6 a0)) (args2 := (W8 l6 a0)) (os := []) (os' := [.arr 28 Thing.cod.sz 0 (r14.1).length (getOf Thing.cod r14.1)]) (os1 := [.arr 28 Thing.cod.sz 0 (r14.1).length (getOf Thing.cod r14.1)]) (res := .tup (W10 r14)) (res1 := .tup (W10 r14)) (r := .tup (W13 r14)) (N := (W11 r14)) (by kernel_rfl) (readA_ow (readA_keep (by kernel_rfl) (readA_own (c := Event.cod) (k := 30) (g := (0 + 1)) (el := 67) (l := (l6 ++ [(Event.mk 3 (iw .i64 a0) (Thing.mk 0 (Point.mk 0 0) (A4.mk (Field.mk 0 be) (Field.mk 0 be) (Field.mk 0 be) (Field.mk 0 be))) (Delta.mk 0 0 (Point.mk 0 0) (A4.mk (Field.mk 0 be) (Field.mk 0 be) (Field.mk 0 be) (Field.mk 0 be))))])) (by kernel_rfl) (readA_nil)))) (by kernel_rfl) (by kernel_rfl) (by kernel_rfl) (by kernel_rfl) (F40_ok _ _ _ _ hr) (flat_rowP (c := Thing.cod) (by kernel_rfl) (fun _ => by kernel_rfl) r14.1) (by kernel_rfl) (by kernel_rfl) rfl (by kernel_rfl) (by kernel_rfl) (by kernel_rfl))) (fun r14 => ?_))))))))
  refine SimI.rd 5 [(13, qb r14.2), (12, .one (.osl 300001 0 0 (r14.1).length)), (76, qb r14.2), (75, .one (.osl 300001 0 0 (r14.1).length)), (72, .tup (W13 r14))] [] (.thenN (.st 2 (rp [79, 78] (.one (.osl 30 (0 + 1) 0 ((l6 ++ [(Event.mk 3 (iw .i64 a0) (Thing.mk 0 (Point.mk 0 0) (A4.mk (Field.mk 0 be) (Field.mk 0 be) (Field.mk 0 be) (Field.mk 0 be))) (Delta.mk 0 0 (Point.mk 0 0) (A4.mk (Field.mk 0 be) (Field.mk 0 be) (Field.mk 0 be) (Field.mk 0 be))))])).length))) [] (.bindh (og := ix (l6 ++ [(Event.mk 3 (iw .i64 a0) (Thing.mk 0 (Point.mk 0 0) (A4.mk (Field.mk 0 be) (Field.mk 0 be) (Field.mk 0 be) (Field.mk 0 be))) (Delta.mk 0 0 (Point.mk 0 0) (A4.mk (Field.mk 0 be) (Field.mk 0 be) (Field.mk 0 be) (Field.mk 0 be))))]) 0) ⟨some 80, .iaddrS 25 79 (kk 0), none, []⟩ (fun x15 => [(80, .one (.aptr 30 (0 + 1) ((0 : Int).toNat) 0))]) (fun x15 => []) (by kernel_rfl) (fun x15 hr => pe (eff_idxO (c := Event.cod) (l := (l6 ++ [(Event.mk 3 (iw .i64 a0) (Thing.mk 0 (Point.mk 0 0) (A4.mk (Field.mk 0 be) (Field.mk 0 be) (Field.mk 0 be) (Field.mk 0 be))) (Delta.mk 0 0 (Point.mk 0 0) (A4.mk (Field.mk 0 be) (Field.mk 0 be) (Field.mk 0 be) (Field.mk 0 be))))])) (g := (0 + 1)) (el := 67) (k := .i64) (n := 0) (by kernel_rfl) (by kernel_rfl) (by kernel_rfl) (by kernel_rfl) hr)) (fun x15 hx15 => ?_))))
  refine SimI.se ⟨some 81, .load true 25 80, none, []⟩ [(81, .agg (Event.cells x15))] [] (pe (eff_loadO (c := Event.cod) (a := x15) (l := (l6 ++ [(Event.mk 3 (iw .i64 a0) (Thing.mk 0 (Point.mk 0 0) (A4.mk (Field.mk 0 be) (Field.mk 0 be) (Field.mk 0 be) (Field.mk 0 be))) (Delta.mk 0 0 (Point.mk 0 0) (A4.mk (Field.mk 0 be) (Field.mk 0 be) (Field.mk 0 be) (Field.mk 0 be))))])) (key := 30) (g := (0 + 1)) (el := 67) (off := 0) (i := (0 : Int).toNat) (by kernel_rfl) (by kernel_rfl) (ix_some hx15).2.2.2 (by kernel_rfl))) (.rn 1 [(82, .one (vw Event.cod [x15]))] [] (.bn ⟨some 84, .lend 83 67 25 264 78 82 [[(0, 11)], [(0, 25)]] 40 [Operand.const (Value.slice none 0 0), 83], none, []⟩ (fun r16 => [(84, .tup (W1 l6 a0 r16))]) (fun r16 => []) (fun r16 hr => pe (eff_lend (c := Event.cod) (k := 30) (g := (0 + 1)) (l := (l6 ++ [(Event.mk 3 (iw .i64 a0) (Thing.mk 0 (Point.mk 0 0) (A4.mk (Field.mk 0 be) (Field.mk 0 be) (Field.mk 0 be) (Field.mk 0 be))) (Delta.mk 0 0 (Point.mk 0 0) (A4.mk (Field.mk 0 be) (Field.mk 0 be) (Field.mk 0 be) (Field.mk 0 be))))])) (a := x15) (ARGS := (W9 l6 a0 x15)) (v := .tup (W10 r16)) (q := .tup (W1 l6 a0 r16)) (by kernel_rfl) (by kernel_rfl) (by kernel_rfl) (by kernel_rfl) (by kernel_rfl) (guard_some hr).1 (by kernel_rfl) (by kernel_rfl) (F40_ok _ _ _ _ (guard_some hr).2) (by kernel_rfl))) (fun r16 => ?_)))
  refine SimI.rd 5 [(15, qb r16.2), (14, .one (.osl 30 (0 + 1) (((l6 ++ [(Event.mk 3 (iw .i64 a0) (Thing.mk 0 (Point.mk 0 0) (A4.mk (Field.mk 0 be) (Field.mk 0 be) (Field.mk 0 be) (Field.mk 0 be))) (Delta.mk 0 0 (Point.mk 0 0) (A4.mk (Field.mk 0 be) (Field.mk 0 be) (Field.mk 0 be) (Field.mk 0 be))))])).length + 1) ((r16.1).length))), (86, qb r16.2), (85, .one (.osl 30 (0 + 1) (((l6 ++ [(Event.mk 3 (iw .i64 a0) (Thing.mk 0 (Point.mk 0 0) (A4.mk (Field.mk 0 be) (Field.mk 0 be) (Field.mk 0 be) (Field.mk 0 be))) (Delta.mk 0 0 (Point.mk 0 0) (A4.mk (Field.mk 0 be) (Field.mk 0 be) (Field.mk 0 be) (Field.mk 0 be))))])).length + 1) ((r16.1).length))), (77, .tup (W1 l6 a0 r16))] [] (.thenN (.st 5 ([(92, qj (iw .i64 ((((l6 ++ [(Event.mk 3 (iw .i64 a0) (Thing.mk 0 (Point.mk 0 0) (A4.mk (Field.mk 0 be) (Field.mk 0 be) (Field.mk 0 be) (Field.mk 0 be))) (Delta.mk 0 0 (Point.mk 0 0) (A4.mk (Field.mk 0 be) (Field.mk 0 be) (Field.mk 0 be) (Field.mk 0 be))))])).length : Int) - 1))), (91, qj (((l6 ++ [(Event.mk 3 (iw .i64 a0) (Thing.mk 0 (Point.mk 0 0) (A4.mk (Field.mk 0 be) (Field.mk 0 be) (Field.mk 0 be) (Field.mk 0 be))) (Delta.mk 0 0 (Point.mk 0 0) (A4.mk (Field.mk 0 be) (Field.mk 0 be) (Field.mk 0 be) (Field.mk 0 be))))])).length : Int))] ++ rp [90, 89, 88] (.one (.osl 30 (0 + 1) 0 ((l6 ++ [(Event.mk 3 (iw .i64 a0) (Thing.mk 0 (Point.mk 0 0) (A4.mk (Field.mk 0 be) (Field.mk 0 be) (Field.mk 0 be) (Field.mk 0 be))) (Delta.mk 0 0 (Point.mk 0 0) (A4.mk (Field.mk 0 be) (Field.mk 0 be) (Field.mk 0 be) (Field.mk 0 be))))])).length))) [] (.bindh (og := ix (l6 ++ [(Event.mk 3 (iw .i64 a0) (Thing.mk 0 (Point.mk 0 0) (A4.mk (Field.mk 0 be) (Field.mk 0 be) (Field.mk 0 be) (Field.mk 0 be))) (Delta.mk 0 0 (Point.mk 0 0) (A4.mk (Field.mk 0 be) (Field.mk 0 be) (Field.mk 0 be) (Field.mk 0 be))))]) (iw .i64 ((((l6 ++ [(Event.mk 3 (iw .i64 a0) (Thing.mk 0 (Point.mk 0 0) (A4.mk (Field.mk 0 be) (Field.mk 0 be) (Field.mk 0 be) (Field.mk 0 be))) (Delta.mk 0 0 (Point.mk 0 0) (A4.mk (Field.mk 0 be) (Field.mk 0 be) (Field.mk 0 be) (Field.mk 0 be))))])).length : Int) - 1))) ⟨some 93, .iaddrS 25 89 92, none, []⟩ (fun x17 => [(93, .one (.aptr 30 (0 + 1) ((iw .i64 ((((l6 ++ [(Event.mk 3 (iw .i64 a0) (Thing.mk 0 (Point.mk 0 0) (A4.mk (Field.mk 0 be) (Field.mk 0 be) (Field.mk 0 be) (Field.mk 0 be))) (Delta.mk 0 0 (Point.mk 0 0) (A4.mk (Field.mk 0 be) (Field.mk 0 be) (Field.mk 0 be) (Field.mk 0 be))))])).length : Int) - 1)).toNat) 0))]) (fun x17 => []) (by kernel_rfl) (fun x17 hr => pe (eff_idxO (c := Event.cod) (l := (l6 ++ [(Event.mk 3 (iw .i64 a0) (Thing.mk 0 (Point.mk 0 0) (A4.mk (Field.mk 0 be) (Field.mk 0 be) (Field.mk 0 be) (Field.mk 0 be))) (Delta.mk 0 0 (Point.mk 0 0) (A4.mk (Field.mk 0 be) (Field.mk 0 be) (Field.mk 0 be) (Field.mk 0 be))))])) (g := (0 + 1)) (el := 67) (k := .i64) (n := IntKind.wrap .i64 ((((l6 ++ [(Event.mk 3 (iw .i64 a0) (Thing.mk 0 (Point.mk 0 0) (A4.mk (Field.mk 0 be) (Field.mk 0 be) (Field.mk 0 be) (Field.mk 0 be))) (Delta.mk 0 0 (Point.mk 0 0) (A4.mk (Field.mk 0 be) (Field.mk 0 be) (Field.mk 0 be) (Field.mk 0 be))))])).length : Int) - 1)) (by kernel_rfl) (by kernel_rfl) (by kernel_rfl) (by kernel_rfl) hr)) (fun x17 hx17 => ?_))))
  refine SimI.se ⟨some 94, .load true 25 93, none, []⟩ [(94, .agg (Event.cells x17))] [] (pe (eff_loadO (c := Event.cod) (a := x17) (l := (l6 ++ [(Event.mk 3 (iw .i64 a0) (Thing.mk 0 (Point.mk 0 0) (A4.mk (Field.mk 0 be) (Field.mk 0 be) (Field.mk 0 be) (Field.mk 0 be))) (Delta.mk 0 0 (Point.mk 0 0) (A4.mk (Field.mk 0 be) (Field.mk 0 be) (Field.mk 0 be) (Field.mk 0 be))))])) (key := 30) (g := (0 + 1)) (el := 67) (off := 0) (i := (iw .i64 ((((l6 ++ [(Event.mk 3 (iw .i64 a0) (Thing.mk 0 (Point.mk 0 0) (A4.mk (Field.mk 0 be) (Field.mk 0 be) (Field.mk 0 be) (Field.mk 0 be))) (Delta.mk 0 0 (Point.mk 0 0) (A4.mk (Field.mk 0 be) (Field.mk 0 be) (Field.mk 0 be) (Field.mk 0 be))))])).length : Int) - 1)).toNat) (by kernel_rfl) (by kernel_rfl) (ix_some hx17).2.2.2 (by kernel_rfl))) (.rn 1 [(95, .one (vw Event.cod [x17]))] [] (.bn ⟨some 97, .lend 96 67 25 264 88 95 [[(0, 11)], [(0, 25)]] 40 [Operand.const (Value.slice none 0 0), 96], none, []⟩ (fun r18 => [(97, .tup (W1 l6 a0 r18))]) (fun r18 => []) (fun r18 hr => pe (eff_lend (c := Event.cod) (k := 30) (g := (0 + 1)) (l := (l6 ++ [(Event.mk 3 (iw .i64 a0) (Thing.mk 0 (Point.mk 0 0) (A4.mk (Field.mk 0 be) (Field.mk 0 be) (Field.mk 0 be) (Field.mk 0 be))) (Delta.mk 0 0 (Point.mk 0 0) (A4.mk (Field.mk 0 be) (Field.mk 0 be) (Field.mk 0 be) (Field.mk 0 be))))])) (a := x17) (ARGS := (W9 l6 a0 x17)) (v := .tup (W10 r18)) (q := .tup (W1 l6 a0 r18)) (by kernel_rfl) (by kernel_rfl) (by kernel_rfl) (by kernel_rfl) (by kernel_rfl) (guard_some hr).1 (by kernel_rfl) (by kernel_rfl) (F40_ok _ _ _ _ (guard_some hr).2) (by kernel_rfl))) (fun r18 => ?_)))
  refine SimI.rd 5 [(17, qb r18.2), (16, .one (.osl 30 (0 + 1) (((l6 ++ [(Event.mk 3 (iw .i64 a0) (Thing.mk 0 (Point.mk 0 0) (A4.mk (Field.mk 0 be) (Field.mk 0 be) (Field.mk 0 be) (Field.mk 0 be))) (Delta.mk 0 0 (Point.mk 0 0) (A4.mk (Field.mk 0 be) (Field.mk 0 be) (Field.mk 0 be) (Field.mk 0 be))))])).length + 1) ((r18.1).length))), (99, qb r18.2), (98, .one (.osl 30 (0 + 1) (((l6 ++ [(Event.mk 3 (iw .i64 a0) (Thing.mk 0 (Point.mk 0 0) (A4.mk (Field.mk 0 be) (Field.mk 0 be) (Field.mk 0 be) (Field.mk 0 be))) (Delta.mk 0 0 (Point.mk 0 0) (A4.mk (Field.mk 0 be) (Field.mk 0 be) (Field.mk 0 be) (Field.mk 0 be))))])).length + 1) ((r18.1).length))), (87, .tup (W1 l6 a0 r18))] [] (.thenN (.st 2 [(101, qb r10.2), (100, qb r10.2)] [] (.sp 101 _ ?_ ?_)))
  ·refine SimI.rn 5 (rp [106, 105, 104] (qb (((r10.1).length : Int) == 1)) ++ [(103, qj ((r10.1).length : Int)), (102, .one (.osl 300000 0 0 (r10.1).length))]) [] (.sp 106 _ ?_ ?_)
   ·refine SimI.rn 1 [(107, .one (.osl 300000 0 0 (r10.1).length))] [] (.bindh (og := ix r10.1 0) ⟨some 108, .iaddrS 11 107 (kk 0), some (106, true), []⟩ (fun x19 => [(108, .one (.aptr 300000 0 ((0 : Int).toNat) 0))]) (fun x19 => []) (by kernel_rfl) (fun x19 hr => pe (eff_idxO (c := Thing.cod) (l := r10.1) (g := 0) (el := 28) (k := .i64) (n := 0) (by kernel_rfl) (by kernel_rfl) (by kernel_rfl) (by kernel_rfl) hr)) (fun x19 hx19 => ?_))
    refine SimI.rn 2 (rp [110, 109] (.one (.aptr 300000 0 ((0 : Int).toNat) 1))) [] (.se ⟨some 111, .load false 1 110, some (106, true), []⟩ [(111, qj x19.At.X)] [] (pe (eff_loadO (c := Thing.cod) (a := x19) (l := r10.1) (key := 300000) (g := 0) (el := 28) (off := 1) (i := (0 : Int).toNat) (by kernel_rfl) (by kernel_rfl) (ix_some hx19).2.2.2 (by kernel_rfl))) (.rn 4 (rp [115, 114, 113] (qb (x19.At.X == i12)) ++ [(112, qj i12)]) [] (.sp 115 _ ?_ ?_)))
    ·refine SimI.rn 3 (rp [118, 117, 116] (qb r14.2)) [] (.sp 118 _ ?_ ?_)
     ·refine SimI.rn 5 (rp [123, 122, 121] (qb (((r14.1).length : Int) == 0)) ++ [(120, qj ((r14.1).length : Int)), (119, .one (.osl 300001 0 0 (r14.1).length))]) [] (.sp 123 _ ?_ ?_)
      ·refine SimI.rn 3 (rp [126, 125, 124] (qb r16.2)) [] (.sp 126 _ ?_ ?_)
       ·refine SimI.rn 5 (rp [131, 130, 129] (qb (((r16.1).length : Int) == 1)) ++ [(128, qj ((r16.1).length : Int)), (127, .one (.osl 30 (0 + 1) (((l6 ++ [(Event.mk 3 (iw .i64 a0) (Thing.mk 0 (Point.mk 0 0) (A4.mk (Field.mk 0 be) (Field.mk 0 be) (Field.mk 0 be) (Field.mk 0 be))) (Delta.mk 0 0 (Point.mk 0 0) (A4.mk (Field.mk 0 be) (Field.mk 0 be) (Field.mk 0 be) (Field.mk 0 be))))])).length + 1) ((r16.1).length)))]) [] (.sp 131 _ ?_ ?_)
        ·exact SimI.rd 4 (rp [4, 134, 133] (qb (!(r18.2))) ++ [(132, qb r18.2)]) [] (.thenN (.ret .fn))
        ·exact SimI.rd 4 [(4, qb false), (134, qb false), (133, tz), (132, tz)] [] (.thenN (.ret .fn))
       ·exact SimI.rd 9 [(4, qb false), (134, qb false), (133, tz), (132, tz), (131, qb false), (130, qb false), (129, tz), (128, tz), (127, tz)] [] (.thenN (.ret .fn))
      ·exact SimI.rd 12 [(4, qb false), (134, qb false), (133, tz), (132, tz), (131, qb false), (130, qb false), (129, tz), (128, tz), (127, tz), (126, qb false), (125, qb false), (124, tz)] [] (.thenN (.ret .fn))
     ·exact SimI.rd 17 [(4, qb false), (134, qb false), (133, tz), (132, tz), (131, qb false), (130, qb false), (129, tz), (128, tz), (127, tz), (126, qb false), (125, qb false), (124, tz), (123, qb false), (122, qb false), (121, tz), (120, tz), (119, tz)] [] (.thenN (.ret .fn))
    ·exact SimI.rd 20 [(4, qb false), (134, qb false), (133, tz), (132, tz), (131, qb false), (130, qb false), (129, tz), (128, tz), (127, tz), (126, qb false), (125, qb false), (124, tz), (123, qb false), (122, qb false), (121, tz), (120, tz), (119, tz), (118, qb false), (117, qb false), (116, tz)] [] (.thenN (.ret .fn))
   ·exact SimI.rd 29 (W7 ++ rp [113, 112, 111, 110, 109, 108, 107] tz) [] (.thenN (.ret .fn))
  ·exact SimI.rd 34 (W7 ++ rp [113, 112, 111, 110, 109, 108, 107] tz ++ [(106, qb false), (105, qb false), (104, tz), (103, tz), (102, tz)]) [] (.thenN (.ret .fn))
def F14_l8 (n : Nat) (a0 : Int) (a1 : (List Int)) : Nat → (List Event) → Int → Option Bool
 | 0, _, _ => none
 | m + 1, l6, i7 =>
  if decide (i7 < ((a1).length : Int)) then
   (ix a1 i7).bind fun (x9 : Int) =>
   if ((l6).length + 1) * 264 ≤ maxCells ∧ (l6).length + 1 ≤ maxCells then
    (F14_l8 n a0 a1 m) (l6 ++ [(Event.mk 2 (IntKind.wrap .i64 a0) (Thing.mk 0 (Point.mk 0 0) (A4.mk (Field.mk 0 ByteArray.empty) (Field.mk 0 ByteArray.empty) (Field.mk 0 ByteArray.empty) (Field.mk 0 ByteArray.empty))) (Delta.mk (IntKind.wrap .i64 a0) 1 (Point.mk (IntKind.wrap .i64 (Int.tmod x9 64)) 0) (A4.mk (Field.mk 0 ByteArray.empty) (Field.mk 0 ByteArray.empty) (Field.mk 0 ByteArray.empty) (Field.mk 0 ByteArray.empty))))]) (IntKind.wrap .i64 (i7 + 1))
   else none
  else
   (F40 n [] l6).bind fun (r10 : ((List Thing) × Bool)) =>
   if decide ((0 : Int) < ((a1).length : Int)) then
    (ix a1 (IntKind.wrap .i64 (((a1).length : Int) - 1))).bind fun (x11 : Int) =>
    F14_j13 n a0 l6 r10 (IntKind.wrap .i64 (Int.tmod x11 64))
   else
    F14_j13 n a0 l6 r10 0
theorem F14_l8_ok (n : Nat) (a0 : Int) (a1 : (List Int)) : ∀ (m : Nat) (l6 : (List Event)) (i7 : Int), SimL Try.prog D (n + 8) m p14c29 [(1, .one (vw (codI .u8) a1)), (5, qj (IntKind.wrap .i64 a0)), (7, .one (.osl 30 0 0 (l6).length)), (8, qj i7)] [(30, some (.arr 67 Event.cod.sz 0 (l6).length (getOf Event.cod l6)))] (F14_l8 n a0 a1 m l6 i7) (QB 0 (QT Try.prog D (n + 8) p14c53 (QF false pc14_r 0 F14_e))) := by
 intro m_l8
 induction m_l8 with
 | zero => intro l6 i7; exact SimL.zero'  rfl
 | succ m_l8 ih_l8 =>
  intro l6 i7
  refine SimL.succ ?_
  unfold F14_l8
  refine Sim.seq (.seq (.rg [(1, .one (vw (codI .u8) a1)), (5, qj (iw .i64 a0)), (7, .one (.osl 30 0 0 (l6).length)), (8, qj i7)] [(30, some (.arr 67 Event.cod.sz 0 (l6).length (getOf Event.cod l6)))] (.rd 4 [(34, qb (decide (i7 < ((a1).length : Int)))), (33, qj ((a1).length : Int)), (32, .one (vw (codI .u8) a1)), (31, qj i7)] [] (.thenN (.cd _ ?_ ?_)))))
  ·refine Sim.skip (.thenN (.seq (.block (.region0 (.rn 5 ([(41, qj i7), (40, .one (vw (codI .u8) a1))] ++ rp [39, 38] (qj (iw .i64 a0)) ++ [(37, .one (.osl 30 0 0 (l6).length))]) [] (.bn ⟨some 42, .iaddrS 1 40 41, none, []⟩ (fun x9 => [(42, .one (.eptr ((codI .u8).enc x9) 0))]) (fun x9 => []) (fun x9 hr => pe (ei (c := (codI .u8)) (k := .i64) hr)) (fun x9 => ?_)))))))
   refine SimI.rn 7 [(49, .one (vw Event.cod [(Event.mk 2 (iw .i64 a0) (Thing.mk 0 (Point.mk 0 0) (A4.mk (Field.mk 0 be) (Field.mk 0 be) (Field.mk 0 be) (Field.mk 0 be))) (Delta.mk (iw .i64 a0) 1 (Point.mk (iw .i64 (Int.tmod x9 64)) 0) (A4.mk (Field.mk 0 be) (Field.mk 0 be) (Field.mk 0 be) (Field.mk 0 be))))])), (48, .agg [lj 2, lj (iw .i64 a0), lj 0, lj 0, lj 0, lj 0, ls be, lj 0, ls be, lj 0, ls be, lj 0, ls be, lj (iw .i64 a0), li .u8 1, lj (iw .i64 (Int.tmod x9 64)), lj 0, lj 0, ls be, lj 0, ls be, lj 0, ls be, lj 0, ls be]), (47, .agg [lj (iw .i64 a0), li .u8 1, lj (iw .i64 (Int.tmod x9 64)), lj 0, lj 0, ls be, lj 0, ls be, lj 0, ls be, lj 0, ls be]), (46, .agg [lj (iw .i64 (Int.tmod x9 64)), lj 0]), (45, qj (iw .i64 (Int.tmod x9 64))), (44, .one (li .u8 (Int.tmod x9 64))), (43, .one (li .u8 x9))] [] (.gu ⟨some 50, .app 100030 67 25 264 37 49, none, []⟩ [(50, .one (.osl 30 (0 + 1) 0 ((l6 ++ [(Event.mk 2 (iw .i64 a0) (Thing.mk 0 (Point.mk 0 0) (A4.mk (Field.mk 0 be) (Field.mk 0 be) (Field.mk 0 be) (Field.mk 0 be))) (Delta.mk (iw .i64 a0) 1 (Point.mk (iw .i64 (Int.tmod x9 64)) 0) (A4.mk (Field.mk 0 be) (Field.mk 0 be) (Field.mk 0 be) (Field.mk 0 be))))])).length))] [(30, some (.arr 67 Event.cod.sz (0 + 1) ((l6 ++ [(Event.mk 2 (iw .i64 a0) (Thing.mk 0 (Point.mk 0 0) (A4.mk (Field.mk 0 be) (Field.mk 0 be) (Field.mk 0 be) (Field.mk 0 be))) (Delta.mk (iw .i64 a0) 1 (Point.mk (iw .i64 (Int.tmod x9 64)) 0) (A4.mk (Field.mk 0 be) (Field.mk 0 be) (Field.mk 0 be) (Field.mk 0 be))))])).length (getOf Event.cod (l6 ++ [(Event.mk 2 (iw .i64 a0) (Thing.mk 0 (Point.mk 0 0) (A4.mk (Field.mk 0 be) (Field.mk 0 be) (Field.mk 0 be) (Field.mk 0 be))) (Delta.mk (iw .i64 a0) 1 (Point.mk (iw .i64 (Int.tmod x9 64)) 0) (A4.mk (Field.mk 0 be) (Field.mk 0 be) (Field.mk 0 be) (Field.mk 0 be))))]))))] (fun hc => pe (eff_appO (c := Event.cod) (g := 0) (l := l6) (a := (Event.mk 2 (iw .i64 a0) (Thing.mk 0 (Point.mk 0 0) (A4.mk (Field.mk 0 be) (Field.mk 0 be) (Field.mk 0 be) (Field.mk 0 be))) (Delta.mk (iw .i64 a0) 1 (Point.mk (iw .i64 (Int.tmod x9 64)) 0) (A4.mk (Field.mk 0 be) (Field.mk 0 be) (Field.mk 0 be) (Field.mk 0 be))))) (by kernel_rfl) (by kernel_rfl) (by kernel_rfl) (by kernel_rfl) hc)) (.rd 1 [(7, .one (.osl 30 (0 + 1) 0 ((l6 ++ [(Event.mk 2 (iw .i64 a0) (Thing.mk 0 (Point.mk 0 0) (A4.mk (Field.mk 0 be) (Field.mk 0 be) (Field.mk 0 be) (Field.mk 0 be))) (Delta.mk (iw .i64 a0) 1 (Point.mk (iw .i64 (Int.tmod x9 64)) 0) (A4.mk (Field.mk 0 be) (Field.mk 0 be) (Field.mk 0 be) (Field.mk 0 be))))])).length))] [] (.blockN (.thenN (.region0 (.rd 3 (rp [8, 36] (qj (iw .i64 (i7 + 1))) ++ [(35, qj i7)]) [] (.loopN (.pr [1, 5, 7, 8] [6, 30] [] [(1, .one (vw (codI .u8) a1)), (5, qj (iw .i64 a0)), (7, .one (.osl 30 0 0 ((l6 ++ [(Event.mk 2 (iw .i64 a0) (Thing.mk 0 (Point.mk 0 0) (A4.mk (Field.mk 0 be) (Field.mk 0 be) (Field.mk 0 be) (Field.mk 0 be))) (Delta.mk (iw .i64 a0) 1 (Point.mk (iw .i64 (Int.tmod x9 64)) 0) (A4.mk (Field.mk 0 be) (Field.mk 0 be) (Field.mk 0 be) (Field.mk 0 be))))])).length)), (8, qj (iw .i64 (i7 + 1)))] [(30, some (.arr 67 Event.cod.sz 0 ((l6 ++ [(Event.mk 2 (iw .i64 a0) (Thing.mk 0 (Point.mk 0 0) (A4.mk (Field.mk 0 be) (Field.mk 0 be) (Field.mk 0 be) (Field.mk 0 be))) (Delta.mk (iw .i64 a0) 1 (Point.mk (iw .i64 (Int.tmod x9 64)) 0) (A4.mk (Field.mk 0 be) (Field.mk 0 be) (Field.mk 0 be) (Field.mk 0 be))))])).length (getOf Event.cod (l6 ++ [(Event.mk 2 (iw .i64 a0) (Thing.mk 0 (Point.mk 0 0) (A4.mk (Field.mk 0 be) (Field.mk 0 be) (Field.mk 0 be) (Field.mk 0 be))) (Delta.mk (iw .i64 a0) 1 (Point.mk (iw .i64 (Int.tmod x9 64)) 0) (A4.mk (Field.mk 0 be) (Field.mk 0 be) (Field.mk 0 be) (Field.mk 0 be))))]))))] ?_))))))))
   exact ih_l8 (l6 ++ [(Event.mk 2 (iw .i64 a0) (Thing.mk 0 (Point.mk 0 0) (A4.mk (Field.mk 0 be) (Field.mk 0 be) (Field.mk 0 be) (Field.mk 0 be))) (Delta.mk (iw .i64 a0) 1 (Point.mk (iw .i64 (Int.tmod x9 64)) 0) (A4.mk (Field.mk 0 be) (Field.mk 0 be) (Field.mk 0 be) (Field.mk 0 be))))]) (iw .i64 (i7 + 1))
  ·refine Sim.exit (.thenX (.loopX (.blockX (.thenN (.st 1 [(52, .one (.osl 30 0 0 (l6).length))] [] (.bn ⟨some 53, .gcall false false W27 [[(0, 11)], [(0, 25)]] 40 [Operand.const (Value.slice none 0 0), 52], none, []⟩ (fun r10 => [(53, .tup [.one (.osl 300000 0 0 (r10.1).length), qb r10.2])]) (fun r10 => (W26 r10)) (fun r10 hr => pe (eff_gcall (ks := []) (rks := [30]) (new := [300000]) (ARGS := [.one (vw Thing.cod ([] : List Thing)), .one (.osl 30 0 0 (l6).length)]) (args1 := [.one (vw Thing.cod ([] : List Thing)), .one (vw Event.cod l6)]) (args2 := [.one (vw Thing.cod ([] : List Thing)), .one (vw Event.cod l6)]) (os := []) (os' := [.arr 28 Thing.cod.sz 0 (r10.1).length (getOf Thing.cod r10.1)]) (os1 := [.arr 28 Thing.cod.sz 0 (r10.1).length (getOf Thing.cod r10.1)]) (res := .tup (W10 r10)) (res1 := .tup (W10 r10)) (r := .tup [.one (.osl 300000 0 0 (r10.1).length), qb r10.2]) (N := (W26 r10)) (by kernel_rfl) (readA_ow (readA_keep (by kernel_rfl) (readA_own (c := Event.cod) (k := 30) (g := 0) (el := 67) (l := l6) (by kernel_rfl) (readA_nil)))) (by kernel_rfl) (by kernel_rfl) (by kernel_rfl) (by kernel_rfl) (F40_ok _ _ _ _ hr) (flat_rowP (c := Thing.cod) (by kernel_rfl) (fun _ => by kernel_rfl) r10.1) (by kernel_rfl) (by kernel_rfl) rfl (by kernel_rfl) (by kernel_rfl) (by kernel_rfl))) (fun r10 => ?_)))))))
   refine SimI.rd 5 [(10, qb r10.2), (9, .one (.osl 300000 0 0 (r10.1).length)), (55, qb r10.2), (54, .one (.osl 300000 0 0 (r10.1).length)), (51, .tup [.one (.osl 300000 0 0 (r10.1).length), qb r10.2])] [] (.thenN (.sr 1 [(11, qj 0)] [] (.seq (.sr 3 [(58, qb (decide ((0 : Int) < ((a1).length : Int)))), (57, qj ((a1).length : Int)), (56, .one (vw (codI .u8) a1))] [] (.cd _ ?_ ?_)))))
   ·refine Sim.region0 (.rn 4 ([(62, qj (iw .i64 (((a1).length : Int) - 1))), (61, qj ((a1).length : Int))] ++ rp [60, 59] (.one (vw (codI .u8) a1))) [] (.bn ⟨some 63, .iaddrS 1 59 62, none, []⟩ (fun x11 => [(63, .one (.eptr ((codI .u8).enc x11) 0))]) (fun x11 => []) (fun x11 hr => pe (ei (c := (codI .u8)) (k := .i64) hr)) (fun x11 => ?_)))
    refine SimI.rd 4 (rp [11, 66] (qj (iw .i64 (Int.tmod x11 64))) ++ [(65, .one (li .u8 (Int.tmod x11 64))), (64, .one (li .u8 x11))]) [] (.thenN (.pr [5, 7, 9, 10, 11] [30, 300000] [] [(5, qj (iw .i64 a0)), (7, .one (.osl 30 0 0 (l6).length)), (9, .one (.osl 300000 0 0 (r10.1).length)), (10, qb r10.2), (11, qj (iw .i64 (Int.tmod x11 64)))] (W6 l6 r10) ?_))
    exact F14_j13_ok n a0 l6 r10 (iw .i64 (Int.tmod x11 64))
   ·refine Sim.skip (.thenN (.pr [5, 7, 9, 10, 11] [30, 300000] [] [(5, qj (iw .i64 a0)), (7, .one (.osl 30 0 0 (l6).length)), (9, .one (.osl 300000 0 0 (r10.1).length)), (10, qb r10.2), (11, qj 0)] (W6 l6 r10) ?_))
    exact F14_j13_ok n a0 l6 r10 0
def F14 (n : Nat) (a0 : Int) (a1 : (List Int)) : Option Bool :=
 ((some true)).bind fun (r1 : Bool) =>
 if !(r1) then
  some false
 else
  if decide ((20 : Int) < ((a1).length : Int)) then
   some true
  else
   F14_l8 n a0 a1 (n + 8) [(Event.mk 1 (IntKind.wrap .i64 a0) (Thing.mk (IntKind.wrap .i64 a0) (Point.mk 0 0) (A4.mk (Field.mk 0 ByteArray.empty) (Field.mk 0 ByteArray.empty) (Field.mk 0 ByteArray.empty) (Field.mk 0 ByteArray.empty))) (Delta.mk 0 0 (Point.mk 0 0) (A4.mk (Field.mk 0 ByteArray.empty) (Field.mk 0 ByteArray.empty) (Field.mk 0 ByteArray.empty) (Field.mk 0 ByteArray.empty))))] 0
theorem F14_ok (n : Nat) (a0 : Int) (a1 : (List Int)) : ∀ r, F14 n a0 a1 = some r → D 14 [.one (li .u8 a0), .one (vw (codI .u8) a1)] [] = some (F14_e r) := by
 refine fn_to (D := D) (n := n + 8) (nt := 135) (rs := pc14_r) (c := p14c60) (L := [(0, .one (li .u8 a0)), (1, .one (vw (codI .u8) a1))]) (M := []) (k := 0) rfl rfl rfl rfl rfl rfl rfl ?_
 unfold F14
 refine Sim.sr 1 [(4, qb false)] [] (.seq (.seq (.region0 (.cl 18 true [] 42 [] none (fun r1 => qb r1) [] (F42_ok n) (fun r1 => ?_)))))
 refine SimI.rd 1 [(19, qb (!(r1)))] [] (.thenN (.cd _ ?_ ?_))
 ·exact Sim.sr 1 [(4, qb false)] [] (.ret (.thenR .fn))
 ·refine Sim.skip (.thenN (.seq (.sr 3 [(22, qb (decide ((20 : Int) < ((a1).length : Int)))), (21, qj ((a1).length : Int)), (20, .one (vw (codI .u8) a1))] [] (.cd _ ?_ ?_))))
  ·exact Sim.sr 1 [(4, qb true)] [] (.ret (.thenR .fn))
  ·refine Sim.skip (.thenN (.sr 3 (rp [5, 24] (qj (iw .i64 a0)) ++ [(23, .one (li .u8 a0))]) [] (.sr 4 [(6, qp 6 0), (26, .agg (W18 a0)), (25, qj (iw .i64 a0))] [(6, some (.cells (W18 a0))), (6, some (.cells W30))] (.sr 5 (rp [7, 30] (.one (.osl 30 0 0 ([(Event.mk 1 (iw .i64 a0) (Thing.mk (iw .i64 a0) (Point.mk 0 0) (A4.mk (Field.mk 0 be) (Field.mk 0 be) (Field.mk 0 be) (Field.mk 0 be))) (Delta.mk 0 0 (Point.mk 0 0) (A4.mk (Field.mk 0 be) (Field.mk 0 be) (Field.mk 0 be) (Field.mk 0 be))))]).length)) ++ [(29, .agg [lj 1, lj (iw .i64 a0), lj (iw .i64 a0), lj 0, lj 0, lj 0, ls be, lj 0, ls be, lj 0, ls be, lj 0, ls be, lj 0, li .u8 0, lj 0, lj 0, lj 0, ls be, lj 0, ls be, lj 0, ls be, lj 0, ls be]), (28, .agg (W18 a0)), (27, qj (iw .i64 a0))]) (W4 a0) (.seq (.sr 1 [(8, qj 0)] [] (.block (.loop (.pr [1, 5, 7, 8] [6, 30] [] [(1, .one (vw (codI .u8) a1)), (5, qj (iw .i64 a0)), (7, .one (.osl 30 0 0 ([(Event.mk 1 (iw .i64 a0) (Thing.mk (iw .i64 a0) (Point.mk 0 0) (A4.mk (Field.mk 0 be) (Field.mk 0 be) (Field.mk 0 be) (Field.mk 0 be))) (Delta.mk 0 0 (Point.mk 0 0) (A4.mk (Field.mk 0 be) (Field.mk 0 be) (Field.mk 0 be) (Field.mk 0 be))))]).length)), (8, qj 0)] (W4 a0) ?_)))))))))
   exact F14_l8_ok n a0 a1 (n + 8) [(Event.mk 1 (iw .i64 a0) (Thing.mk (iw .i64 a0) (Point.mk 0 0) (A4.mk (Field.mk 0 be) (Field.mk 0 be) (Field.mk 0 be) (Field.mk 0 be))) (Delta.mk 0 0 (Point.mk 0 0) (A4.mk (Field.mk 0 be) (Field.mk 0 be) (Field.mk 0 be) (Field.mk 0 be))))] 0
end Go.Proofs.Ytobeamaaifgllaa
