/- No condition. -/
import Derived.Test.YthdabpmcojmhhaaViewPlaysE
namespace Go.Proofs.Ythdabpmcojmhhaa
open Go Go.Rx
set_option maxRecDepth 100000
set_option linter.unusedVariables false
set_option linter.unusedSimpArgs false
set_option linter.unnecessarySimpa false
set_option linter.unnecessarySimpa false
def F13_e : View → PV × List Ob := fun r => (.one (.ptr 1000000 0), [.cells [li .i64 r.client, li .i64 r.session, li .i64 r.n, li .i64 r.beat, li .i64 r.start, vw Thing.cod r.things, .osl 1000001 0 0 (r.log_).length, .mp 1000002], .arr 58 Event.cod.sz 0 (r.log_).length (getOf Event.cod r.log_), .map (mapOf Key.cells Event.cod r.wait)])
def F13 (n : Nat) (a0 a1 a2 : Int) : Option View :=
 some (View.mk a0 a1 (imin (imax a2 1) 4) (-1) (-1) ([] : List Thing) ([] : List Event) ([] : (List (Key × (List Event)))))
theorem F13_ok (n : Nat) (a0 a1 a2 : Int) : ∀ r, F13 n a0 a1 a2 = some r → D 13 [.one (li .i64 a0), .one (li .i64 a1), .one (li .i64 a2)] [] = some (F13_e r) := by
 refine fn_to (D := D) (n := n + 8) (nt := 15) (rs := pc13_r) (c := p13c5) (L := [(0, qj a0), (1, qj a1), (2, qj a2)]) (M := []) (k := 0) rfl rfl rfl rfl rfl rfl rfl ?_
 unfold F13
 exact Sim.sr 1 [(6, .one (.val (.pointer none)))] [] (.sr 9 [(6, qp 14 0), (14, qp 14 0), (13, .agg [lj a0, lj a1, lj (imin (imax a2 1) 4), lj (-1), lj (-1), lnil, lnil, .mp 12]), (12, .one (.mp 12)), (11, qj (imin (imax a2 1) 4)), (10, qj (imax a2 1)), (9, qj a2), (8, qj a1), (7, qj a0)] [(14, some (.cells [lj a0, lj a1, lj (imin (imax a2 1) 4), lj (-1), lj (-1), vw Thing.cod ([] : List Thing), .osl 400113 0 0 (([] : List Event)).length, .mp 12])), (400113, some (.arr 58 Event.cod.sz 0 (([] : List Event)).length (getOf Event.cod ([] : List Event)))), (12, some (.map (mapOf Key.cells Event.cod ([] : (List (Key × (List Event)))))))] (.ret .fn))
def F77_e : Bool → PV × List Ob := fun r => (.one (lb r), [])
def F77 (n : Nat) (a0 : Point) : Option Bool :=
 if decide ((0 : Int) ≤ a0.X) then
  if decide (a0.X < 64) then
   if decide ((0 : Int) ≤ a0.Y) then
    some (decide (a0.Y < 64))
   else
    some false
  else
   some false
 else
  some false
theorem F77_ok (n : Nat) (a0 : Point) : ∀ r, F77 n a0 = some r → D 77 [.agg [li .i64 a0.X, li .i64 a0.Y]] [] = some (F77_e r) := by
 refine fn_to (D := D) (n := n + 8) (nt := 21) (rs := pc77_r) (c := p77c5) (L := [(0, .agg [lj a0.X, lj a0.Y])]) (M := []) (k := 0) rfl rfl rfl rfl rfl rfl rfl ?_
 unfold F77
 refine Sim.sr 2 W22 [(1, some (.cells [lj a0.X, lj a0.Y]))] (.st 4 (w12 a0) [] (.sp 6 _ ?_ ?_))
 ·refine SimI.rn 5 (w13 a0) [] (.sp 11 _ ?_ ?_)
  ·refine SimI.rn 5 (w14 a0) [] (.sp 16 _ ?_ ?_)
   ·exact SimI.rd 5 (w15 a0) [] (.thenN (.ret .fn))
   ·exact SimI.rd 5 [(2, qb false), (20, qb false), (19, tz), (18, tz), (17, tz)] [] (.thenN (.ret .fn))
  ·exact SimI.rd 10 W57 [] (.thenN (.ret .fn))
 ·exact SimI.rd 15 W40 [] (.thenN (.ret .fn))
def F62_e : Bool → PV × List Ob := fun r => (.one (lb r), [])
def F62 (n : Nat) (a0 : Field) : Option Bool :=
 if a0.N == 0 then
  some (decide ((a0.Text.size : Int) ≤ 12))
 else
  if a0.Text.toList == ByteArray.empty.toList then
   some (decide ((a0.Text.size : Int) ≤ 12))
  else
   some false
theorem F62_ok (n : Nat) (a0 : Field) : ∀ r, F62 n a0 = some r → D 62 [.agg [li .i64 a0.N, ls a0.Text]] [] = some (F62_e r) := by
 refine fn_to (D := D) (n := n + 8) (nt := 17) (rs := pc62_r) (c := p62c5) (L := [(0, .agg [lj a0.N, ls a0.Text])]) (M := []) (k := 0) rfl rfl rfl rfl rfl rfl rfl ?_
 unfold F62
 refine Sim.sr 2 W22 (W67 a0) (.st 4 [(6, qb (a0.N == 0)), (5, qb (a0.N == 0)), (4, qj a0.N), (3, qp 1 0)] [] (.sp 6 _ ?_ ?_))
 ·exact SimI.rd 11 (rp [2, 16, 15] (qb (decide ((a0.Text.size : Int) ≤ 12))) ++ (W61 a0)) [] (.thenN (.ret .fn))
 ·refine SimI.rn 5 (w16 a0) [] (.sp 11 _ ?_ ?_)
  ·exact SimI.rd 6 (w17 a0) [] (.thenN (.ret .fn))
  ·exact SimI.rd 6 [(2, qb false), (16, qb false), (15, tz), (14, tz), (13, tz), (12, tz)] [] (.thenN (.ret .fn))
def F79_e : Bool → PV × List Ob := fun r => (.one (lb r), [])
def F79 (n : Nat) (a0 : Field) : Option Bool :=
 (F62 n a0).bind fun (r1 : Bool) =>
 some (!(r1))
theorem F79_ok (n : Nat) (a0 : Field) : ∀ r, F79 n a0 = some r → D 79 [.agg [li .i64 a0.N, ls a0.Text]] [] = some (F79_e r) := by
 refine fn_to (D := D) (n := n + 8) (nt := 6) (rs := pc79_r) (c := p79c5) (L := [(0, .agg [lj a0.N, ls a0.Text])]) (M := []) (k := 0) rfl rfl rfl rfl rfl rfl rfl ?_
 unfold F79
 refine Sim.sr 2 W22 (W67 a0) (.st 1 [(3, .agg [lj a0.N, ls a0.Text])] [] (.cl 4 true [[]] 62 [3] none (fun r1 => qb r1) [.agg [lj a0.N, ls a0.Text]] (F62_ok _ _) (fun r1 => ?_)))
 exact SimI.rd 2 [(2, qb (!(r1))), (5, qb (!(r1)))] [] (.thenN (.ret .fn))
def F91s0_e (a0 : (List Field)) : Int → PV × List Ob := fun r => (.one (li .i64 r), [])
def F91s0_l4 (n : Nat) (a0 : (List Field)) : Nat → Int → Option Int
 | 0, _ => none
 | m + 1, i3 =>
  if decide (i3 < ((a0).length : Int)) then
   (ix a0 i3).bind fun (x5 : Field) =>
   (F79 n x5).bind fun (r6 : Bool) =>
   if r6 then
    some i3
   else
    (F91s0_l4 n a0 m) (IntKind.wrap .i64 (i3 + 1))
  else
   some (-1)
theorem F91s0_l4_ok (n : Nat) (a0 : (List Field)) : ∀ (m : Nat) (i3 : Int), SimL Try.prog D (n + 8) m p91c20 [(0, .one (vw Field.cod a0)), (1, .one (.val (.func (.func 79) #[] #[]))), (7, qj ((a0).length : Int)), (8, qj i3)] [] (F91s0_l4 n a0 m i3) (QB 0 (QT Try.prog D (n + 8) p91c26 (QF false pc91_r 0 (F91s0_e a0)))) := by
 intro m_l4
 induction m_l4 with
 | zero => intro i3; exact SimL.zero'  rfl
 | succ m_l4 ih_l4 =>
  intro i3
  refine SimL.succ ?_
  unfold F91s0_l4
  refine Sim.seq (.rg [(0, .one (vw Field.cod a0)), (1, .one (.val (.func (.func 79) #[] #[]))), (7, qj ((a0).length : Int)), (8, qj i3)] [] (.rd 1 [(9, qb (decide (i3 < ((a0).length : Int))))] [] (.thenN (.seq (.cd _ ?_ ?_)))))
  ·refine Sim.skip (.thenN (.seq (.block (.sr 2 [(5, qj i3), (10, qj i3)] [] (.st 3 [(13, qj i3), (12, .one (vw Field.cod a0)), (11, .one (.val (.func (.func 79) #[] #[])))] [] (.bn ⟨some 14, .iaddrS 2 12 13, none, []⟩ (fun x5 => [(14, .one (.eptr (Field.cod.enc x5) 0))]) (fun x5 => []) (fun x5 hr => pe (ei (c := Field.cod) (k := .i64) hr)) (fun x5 => ?_)))))))
   refine SimI.rn 1 [(15, .agg [lj x5.N, ls x5.Text])] [] (.bn ⟨some 16, .callv true [[]] 11 [15], none, []⟩ (fun r6 => [(16, qb r6)]) (fun r6 => []) (fun r6 hr => pe (eff_callvv (by kernel_rfl) (ARGS := [.agg [lj x5.N, ls x5.Text]]) (by kernel_rfl) (args_clean (by kernel_rfl) args_nil) (F79_ok _ _ _ hr) (by kernel_rfl))) (fun r6 => ?_))
   refine SimI.dn (.thenN (.cd _ ?_ ?_))
   ·exact Sim.sr 2 [(4, qj i3), (17, qj i3)] [] (.ret (.blockR (.thenR (.loopR (.blockR (.thenR .fn))))))
   ·refine Sim.skip (.blockN (.thenN (.region0 (.rd 2 (rp [8, 18] (qj (iw .i64 (i3 + 1)))) [] (.loopN (.pr [0, 1, 7, 8] [] [] [(0, .one (vw Field.cod a0)), (1, .one (.val (.func (.func 79) #[] #[]))), (7, qj ((a0).length : Int)), (8, qj (iw .i64 (i3 + 1)))] [] ?_))))))
    exact ih_l4 (iw .i64 (i3 + 1))
  ·exact Sim.exit (.thenX (.loopX (.blockX (.thenN (.sr 1 [(4, qj (-1))] [] (.ret .fn))))))
def F91s0 (n : Nat) (a0 : (List Field)) : Option Int :=
 F91s0_l4 n a0 (n + 8) 0
theorem F91s0_ok (n : Nat) (a0 : (List Field)) : ∀ r, F91s0 n a0 = some r → D 91 [.one (vw Field.cod a0), .one (.val (.func (.func 79) #[] #[]))] [] = some ((F91s0_e a0) r) := by
 refine fn_to (D := D) (n := n + 8) (nt := 19) (rs := pc91_r) (c := p91c28) (L := [(0, .one (vw Field.cod a0)), (1, .one (.val (.func (.func 79) #[] #[])))]) (M := []) (k := 0) rfl rfl rfl rfl rfl rfl rfl ?_
 unfold F91s0
 refine Sim.sr 1 [(4, qj 0)] [] (.seq (.sr 3 [(8, qj 0), (7, qj ((a0).length : Int)), (6, .one (vw Field.cod a0))] [] (.block (.loop (.pr [0, 1, 7, 8] [] [] [(0, .one (vw Field.cod a0)), (1, .one (.val (.func (.func 79) #[] #[]))), (7, qj ((a0).length : Int)), (8, qj 0)] [] ?_)))))
 exact F91s0_l4_ok n a0 (n + 8) 0
def F78s0_e (a0 : (List Field)) : Bool → PV × List Ob := fun r => (.one (lb r), [])
def F78s0 (n : Nat) (a0 : (List Field)) : Option Bool :=
 (F91s0 n a0).bind fun (r1 : Int) =>
 some (decide ((0 : Int) ≤ r1))
theorem F78s0_ok (n : Nat) (a0 : (List Field)) : ∀ r, F78s0 n a0 = some r → D 78 [.one (vw Field.cod a0), .one (.val (.func (.func 79) #[] #[]))] [] = some ((F78s0_e a0) r) := by
 refine fn_to (D := D) (n := n + 8) (nt := 9) (rs := pc78_r) (c := p78c5) (L := [(0, .one (vw Field.cod a0)), (1, .one (.val (.func (.func 79) #[] #[])))]) (M := []) (k := 0) rfl rfl rfl rfl rfl rfl rfl ?_
 unfold F78s0
 refine Sim.sr 1 [(4, qb false)] [] (.st 2 [(6, .one (.val (.func (.func 79) #[] #[]))), (5, .one (vw Field.cod a0))] [] (.bn ⟨some 7, .gcall false false W8 [[(0, 2)], []] 91 [5, 6], none, []⟩ (fun r1 => [(7, qj r1)]) (fun r1 => []) (fun r1 hr => pe (gq (ks := []) (ARGS := [.one (vw Field.cod a0), .one (.val (.func (.func 79) #[] #[]))]) (F91s0_ok _ _ _ hr))) (fun r1 => ?_)))
 exact SimI.rd 2 (rp [4, 8] (qb (decide ((0 : Int) ≤ r1)))) [] (.thenN (.ret .fn))
def F72_e : Bool → PV × List Ob := fun r => (.one (lb r), [])
def F72 (n : Nat) (a0 : Thing) : Option Bool :=
 if decide ((0 : Int) ≤ a0.ID) then
  if decide (a0.ID ≤ 1000000) then
   (F77 n a0.At).bind fun (r1 : Bool) =>
   if r1 then
    (F78s0 n [a0.F.a0, a0.F.a1, a0.F.a2, a0.F.a3]).bind fun (r2 : Bool) =>
    some (!(r2))
   else
    some false
  else
   some false
 else
  some false
theorem F72_ok (n : Nat) (a0 : Thing) : ∀ r, F72 n a0 = some r → D 72 [.agg (Thing.cells a0)] [] = some (F72_e r) := by
 refine fn_to (D := D) (n := n + 8) (nt := 22) (rs := pc72_r) (c := p72c5) (L := [(0, .agg (Thing.cells a0))]) (M := []) (k := 0) rfl rfl rfl rfl rfl rfl rfl ?_
 unfold F72
 refine Sim.sr 2 W22 (W5 a0) (.st 4 (rp [6, 5] (qb (decide ((0 : Int) ≤ a0.ID))) ++ [(4, qj a0.ID), (3, qp 1 0)]) [] (.sp 6 _ ?_ ?_))
 ·refine SimI.rn 5 (rp [11, 10, 9] (qb (decide (a0.ID ≤ 1000000))) ++ [(8, qj a0.ID), (7, qp 1 0)]) [] (.sp 11 _ ?_ ?_)
  ·refine SimI.rn 2 [(13, .agg [lj a0.At.X, lj a0.At.Y]), (12, qp 1 1)] [] (.cl 14 true [[]] 77 [13] (some (11, true)) (fun r1 => qb r1) [.agg [lj a0.At.X, lj a0.At.Y]] (F77_ok _ _) (fun r1 => ?_))
   refine SimI.rn 2 [(16, qb r1), (15, qb r1)] [] (.sp 16 _ ?_ ?_)
   ·refine SimI.rn 2 [(18, .one (.csl 1 2 3 4)), (17, qp 1 3)] [] (.bn ⟨some 19, .gcall false false [1, 300000, 300001, 300002, 300003, 300004, 300005, 300006, 300007] [[(0, 2)], []] 78 [18, Operand.func 79], some (16, true), []⟩ (fun r2 => [(19, qb r2)]) (fun r2 => []) (fun r2 hr => pe (eff_gcall (ks := []) (rks := [1]) (new := []) (ARGS := [.one (.csl 1 2 3 4), .one (.val (.func (.func 79) #[] #[]))]) (args1 := (W64 a0)) (args2 := (W64 a0)) (os := []) (os' := []) (os1 := []) (res := qb r2) (res1 := qb r2) (r := qb r2) (N := []) (by kernel_rfl) (readA_ow (readA_csl (c := Field.cod) (k := 1) (off := 3) (cs := (Thing.cells a0)) (l := [a0.F.a0, a0.F.a1, a0.F.a2, a0.F.a3]) (by kernel_rfl) (by kernel_rfl) (by kernel_rfl) (by kernel_rfl) (readA_keep (by kernel_rfl) (readA_nil)))) (by kernel_rfl) (by kernel_rfl) (by kernel_rfl) (by kernel_rfl) (F78s0_ok _ _ _ hr) (by kernel_rfl) (by kernel_rfl) (by kernel_rfl) rfl (by kernel_rfl) (by kernel_rfl) (by kernel_rfl))) (fun r2 => ?_))
    exact SimI.rd 3 (rp [2, 21, 20] (qb (!(r2)))) [] (.thenN (.ret .fn))
   ·exact SimI.rd 6 [(2, qb false), (21, qb false), (20, tz), (19, tz), (18, tz), (17, tz)] [] (.thenN (.ret .fn))
  ·exact SimI.rd 11 [(2, qb false), (21, qb false), (20, tz), (19, tz), (18, tz), (17, tz), (16, qb false), (15, qb false), (14, tz), (13, tz), (12, tz)] [] (.thenN (.ret .fn))
 ·exact SimI.rd 16 [(2, qb false), (21, qb false), (20, tz), (19, tz), (18, tz), (17, tz), (16, qb false), (15, qb false), (14, tz), (13, tz), (12, tz), (11, qb false), (10, qb false), (9, tz), (8, tz), (7, tz)] [] (.thenN (.ret .fn))
def F80_e : Bool → PV × List Ob := fun r => (.one (lb r), [])
def F80 (n : Nat) (a0 a1 : Int) : Option Bool :=
 if ¬ (IntKind.wrap .i64 (a1 + 1) < 0) then
  some ((bitsI .and .u8 (shrI .u8 a0 (IntKind.wrap .i64 (a1 + 1))) 1) == 1)
 else none
theorem F80_ok (n : Nat) (a0 a1 : Int) : ∀ r, F80 n a0 a1 = some r → D 80 [.one (li .u8 a0), .one (li .i64 a1)] [] = some (F80_e r) := by
 refine fn_to (D := D) (n := n + 8) (nt := 11) (rs := pc80_r) (c := p80c5) (L := [(0, .one (li .u8 a0)), (1, qj a1)]) (M := []) (k := 0) rfl rfl rfl rfl rfl rfl rfl ?_
 unfold F80
 exact Sim.sr 1 [(4, qb false)] [] (.st 3 [(7, qj (iw .i64 (a1 + 1))), (6, qj a1), (5, .one (li .u8 a0))] [] (.gp 8 (.bin .shr 5 false false) [5, 7] none [] (fun hc => pr_shr _ _ _ .u8 .i64 a0 (iw .i64 (a1 + 1)) hc) (.rd 3 (rp [4, 10] (qb ((bitsI .and .u8 (shrI .u8 a0 (iw .i64 (a1 + 1))) 1) == 1)) ++ [(9, .one (li .u8 (bitsI .and .u8 (shrI .u8 a0 (iw .i64 (a1 + 1))) 1)))]) [] (.thenN (.ret .fn)))))
def F73_e : Bool → PV × List Ob := fun r => (.one (lb r), [])
def F73_u15 (n : Nat) : Option Bool :=
  some true
theorem F73_u15_ok (n : Nat) (a0 : Delta) : SimL Try.prog D (n + 8) (n + 4) p73c34 [(1, qp 1 0), (40, .agg (A4_Field.cells a0.F)), (41, qj 4)] (W4 a0) (F73_u15 n) (QB 0 (QT Try.prog D (n + 8) p73c40 (QF false pc73_r 0 F73_e))) := by
  unfold F73_u15
  exact SimL.succ (.seq (.rg (w3 a0) (W4 a0) (.rd 1 [(42, qb false)] [] (.thenN (.seq (.cf (.exit (.thenX (.loopX (.blockX (.thenN (.sr 1 [(2, qb true)] [] (.ret .fn)))))))))))))
def F73_u12 (n : Nat) (a0 : Delta) : Option Bool :=
  (F62 n a0.F.a3).bind fun (r13 : Bool) =>
  if !(r13) then
   some false
  else
   (F80 n a0.Mask 3).bind fun (r14 : Bool) =>
   if !(r14) then
    if !(Field.eqb a0.F.a3 (Field.mk 0 ByteArray.empty)) then
     some false
    else
     F73_u15 n
   else
    F73_u15 n
theorem F73_u12_ok (n : Nat) (a0 : Delta) : SimL Try.prog D (n + 8) (n + 5) p73c34 [(1, qp 1 0), (40, .agg (A4_Field.cells a0.F)), (41, qj 3)] (W4 a0) (F73_u12 n a0) (QB 0 (QT Try.prog D (n + 8) p73c40 (QF false pc73_r 0 F73_e))) := by
  unfold F73_u12
  refine SimL.succ (.seq (.rg (w4 a0) (W4 a0) (.rd 1 [(42, qb true)] [] (.thenN (.seq (.ct (.skip (.thenN (.seq (.block (.sr 5 [(3, qj 3), (4, qp 4 0), (44, .agg (W27 a0)), (43, qj 3)] [(4, some (.cells (W27 a0))), (4, some (.cells [lj 0, ls be]))] (.st 1 [(45, .agg (W27 a0))] [] (.cl 46 true [[]] 62 [45] none (fun r13 => qb r13) [.agg (W27 a0)] (F62_ok _ _) (fun r13 => ?_))))))))))))))
  refine SimI.rn 2 [(48, qb (!(r13))), (47, qb (!(r13)))] [] (.sp 48 _ ?_ ?_)
  ·exact SimI.rd 11 ([(59, qb true)] ++ rp W58 tz) [] (.thenN (.ct (.sr 1 [(2, qb false)] [] (.ret (.blockR (.thenR (.loopR (.blockR (.thenR .fn)))))))))
  ·refine SimI.rn 3 [(51, qj 3), (50, .one (li .u8 a0.Mask)), (49, qp 1 1)] [] (.cl 52 true [[], []] 80 [50, 51] (some (48, false)) (fun r14 => qb r14) [.one (li .u8 a0.Mask), qj 3] (F80_ok _ _ _) (fun r14 => ?_))
   refine SimI.rn 2 (W44 r14) [] (.sp 54 _ ?_ ?_)
   ·refine SimI.rn 2 [(56, .agg [lj 0, ls be]), (55, .agg (W27 a0))] [] (.se ⟨some 57, .prim (.bin .neq 51 false false) [55, 56], some (54, true), []⟩ [(57, qb (!(Field.eqb a0.F.a3 (Field.mk 0 be))))] [] (pe (ep (Field_eqn a0.F.a3 (Field.mk 0 be) _ _))) (.rd 2 (rp [59, 58] (qb (!(Field.eqb a0.F.a3 (Field.mk 0 be))))) [] (.thenN (.cd _ ?_ ?_))))
    ·exact Sim.sr 1 [(2, qb false)] [] (.ret (.blockR (.thenR (.loopR (.blockR (.thenR .fn))))))
    ·refine Sim.skip (.blockN (.thenN (.region0 (.rd 2 [(41, qj 4), (60, qj 4)] [] (.loopN (.pr [1, 40, 41] [1, 4] [] (w3 a0) (W4 a0) ?_))))))
     exact F73_u15_ok n a0
   ·refine SimI.rd 5 W42 [] (.thenN (.cf (.skip (.blockN (.thenN (.region0 (.rd 2 [(41, qj 4), (60, qj 4)] [] (.loopN (.pr [1, 40, 41] [1, 4] [] (w3 a0) (W4 a0) ?_)))))))))
    exact F73_u15_ok n a0
def F73_u9 (n : Nat) (a0 : Delta) : Option Bool :=
  (F62 n a0.F.a2).bind fun (r10 : Bool) =>
  if !(r10) then
   some false
  else
   (F80 n a0.Mask 2).bind fun (r11 : Bool) =>
   if !(r11) then
    if !(Field.eqb a0.F.a2 (Field.mk 0 ByteArray.empty)) then
     some false
    else
     F73_u12 n a0
   else
    F73_u12 n a0
theorem F73_u9_ok (n : Nat) (a0 : Delta) : SimL Try.prog D (n + 8) (n + 6) p73c34 [(1, qp 1 0), (40, .agg (A4_Field.cells a0.F)), (41, qj 2)] (W4 a0) (F73_u9 n a0) (QB 0 (QT Try.prog D (n + 8) p73c40 (QF false pc73_r 0 F73_e))) := by
  unfold F73_u9
  refine SimL.succ (.seq (.rg (w5 a0) (W4 a0) (.rd 1 [(42, qb true)] [] (.thenN (.seq (.ct (.skip (.thenN (.seq (.block (.sr 5 [(3, qj 2), (4, qp 4 0), (44, .agg (W28 a0)), (43, qj 2)] [(4, some (.cells (W28 a0))), (4, some (.cells [lj 0, ls be]))] (.st 1 [(45, .agg (W28 a0))] [] (.cl 46 true [[]] 62 [45] none (fun r10 => qb r10) [.agg (W28 a0)] (F62_ok _ _) (fun r10 => ?_))))))))))))))
  refine SimI.rn 2 [(48, qb (!(r10))), (47, qb (!(r10)))] [] (.sp 48 _ ?_ ?_)
  ·exact SimI.rd 11 ([(59, qb true)] ++ rp W58 tz) [] (.thenN (.ct (.sr 1 [(2, qb false)] [] (.ret (.blockR (.thenR (.loopR (.blockR (.thenR .fn)))))))))
  ·refine SimI.rn 3 [(51, qj 2), (50, .one (li .u8 a0.Mask)), (49, qp 1 1)] [] (.cl 52 true [[], []] 80 [50, 51] (some (48, false)) (fun r11 => qb r11) [.one (li .u8 a0.Mask), qj 2] (F80_ok _ _ _) (fun r11 => ?_))
   refine SimI.rn 2 (W44 r11) [] (.sp 54 _ ?_ ?_)
   ·refine SimI.rn 2 [(56, .agg [lj 0, ls be]), (55, .agg (W28 a0))] [] (.se ⟨some 57, .prim (.bin .neq 51 false false) [55, 56], some (54, true), []⟩ [(57, qb (!(Field.eqb a0.F.a2 (Field.mk 0 be))))] [] (pe (ep (Field_eqn a0.F.a2 (Field.mk 0 be) _ _))) (.rd 2 (rp [59, 58] (qb (!(Field.eqb a0.F.a2 (Field.mk 0 be))))) [] (.thenN (.cd _ ?_ ?_))))
    ·exact Sim.sr 1 [(2, qb false)] [] (.ret (.blockR (.thenR (.loopR (.blockR (.thenR .fn))))))
    ·refine Sim.skip (.blockN (.thenN (.region0 (.rd 2 [(41, qj 3), (60, qj 3)] [] (.loopN (.pr [1, 40, 41] [1, 4] [] (w4 a0) (W4 a0) ?_))))))
     exact F73_u12_ok n a0
   ·refine SimI.rd 5 W42 [] (.thenN (.cf (.skip (.blockN (.thenN (.region0 (.rd 2 [(41, qj 3), (60, qj 3)] [] (.loopN (.pr [1, 40, 41] [1, 4] [] (w4 a0) (W4 a0) ?_)))))))))
    exact F73_u12_ok n a0
def F73_u6 (n : Nat) (a0 : Delta) : Option Bool :=
  (F62 n a0.F.a1).bind fun (r7 : Bool) =>
  if !(r7) then
   some false
  else
   (F80 n a0.Mask 1).bind fun (r8 : Bool) =>
   if !(r8) then
    if !(Field.eqb a0.F.a1 (Field.mk 0 ByteArray.empty)) then
     some false
    else
     F73_u9 n a0
   else
    F73_u9 n a0
theorem F73_u6_ok (n : Nat) (a0 : Delta) : SimL Try.prog D (n + 8) (n + 7) p73c34 [(1, qp 1 0), (40, .agg (A4_Field.cells a0.F)), (41, qj 1)] (W4 a0) (F73_u6 n a0) (QB 0 (QT Try.prog D (n + 8) p73c40 (QF false pc73_r 0 F73_e))) := by
  unfold F73_u6
  refine SimL.succ (.seq (.rg (w6 a0) (W4 a0) (.rd 1 [(42, qb true)] [] (.thenN (.seq (.ct (.skip (.thenN (.seq (.block (.sr 5 [(3, qj 1), (4, qp 4 0), (44, .agg (W29 a0)), (43, qj 1)] [(4, some (.cells (W29 a0))), (4, some (.cells [lj 0, ls be]))] (.st 1 [(45, .agg (W29 a0))] [] (.cl 46 true [[]] 62 [45] none (fun r7 => qb r7) [.agg (W29 a0)] (F62_ok _ _) (fun r7 => ?_))))))))))))))
  refine SimI.rn 2 [(48, qb (!(r7))), (47, qb (!(r7)))] [] (.sp 48 _ ?_ ?_)
  ·exact SimI.rd 11 ([(59, qb true)] ++ rp W58 tz) [] (.thenN (.ct (.sr 1 [(2, qb false)] [] (.ret (.blockR (.thenR (.loopR (.blockR (.thenR .fn)))))))))
  ·refine SimI.rn 3 [(51, qj 1), (50, .one (li .u8 a0.Mask)), (49, qp 1 1)] [] (.cl 52 true [[], []] 80 [50, 51] (some (48, false)) (fun r8 => qb r8) [.one (li .u8 a0.Mask), qj 1] (F80_ok _ _ _) (fun r8 => ?_))
   refine SimI.rn 2 (W44 r8) [] (.sp 54 _ ?_ ?_)
   ·refine SimI.rn 2 [(56, .agg [lj 0, ls be]), (55, .agg (W29 a0))] [] (.se ⟨some 57, .prim (.bin .neq 51 false false) [55, 56], some (54, true), []⟩ [(57, qb (!(Field.eqb a0.F.a1 (Field.mk 0 be))))] [] (pe (ep (Field_eqn a0.F.a1 (Field.mk 0 be) _ _))) (.rd 2 (rp [59, 58] (qb (!(Field.eqb a0.F.a1 (Field.mk 0 be))))) [] (.thenN (.cd _ ?_ ?_))))
    ·exact Sim.sr 1 [(2, qb false)] [] (.ret (.blockR (.thenR (.loopR (.blockR (.thenR .fn))))))
    ·refine Sim.skip (.blockN (.thenN (.region0 (.rd 2 [(41, qj 2), (60, qj 2)] [] (.loopN (.pr [1, 40, 41] [1, 4] [] (w5 a0) (W4 a0) ?_))))))
     exact F73_u9_ok n a0
   ·refine SimI.rd 5 W42 [] (.thenN (.cf (.skip (.blockN (.thenN (.region0 (.rd 2 [(41, qj 2), (60, qj 2)] [] (.loopN (.pr [1, 40, 41] [1, 4] [] (w5 a0) (W4 a0) ?_)))))))))
    exact F73_u9_ok n a0
def F73_j3 (n : Nat) (a0 : Delta) : Option Bool :=
  (F62 n a0.F.a0).bind fun (r4 : Bool) =>
  if !(r4) then
   some false
  else
   (F80 n a0.Mask 0).bind fun (r5 : Bool) =>
   if !(r5) then
    if !(Field.eqb a0.F.a0 (Field.mk 0 ByteArray.empty)) then
     some false
    else
     F73_u6 n a0
   else
    F73_u6 n a0
theorem F73_j3_ok (n : Nat) (a0 : Delta) : Sim Try.prog D (n + 8) p73c41 [(1, qp 1 0)] (W4 a0) (F73_j3 n a0) (QF false pc73_r 0 F73_e) := by
  unfold F73_j3
  refine Sim.seq (.seq (.rs (.rd 3 [(41, qj 0), (40, .agg (A4_Field.cells a0.F)), (39, qp 1 4)] [] (.thenN (.block (.loop (.succ (.seq (.rg [(1, qp 1 0), (40, .agg (A4_Field.cells a0.F)), (41, qj 0)] (W4 a0) (.rd 1 [(42, qb true)] [] (.thenN (.seq (.ct (.skip (.thenN (.seq (.block (.sr 5 [(3, qj 0), (4, qp 4 0), (44, .agg (W30 a0)), (43, qj 0)] [(4, some (.cells (W30 a0))), (4, some (.cells [lj 0, ls be]))] (.st 1 [(45, .agg (W30 a0))] [] (.cl 46 true [[]] 62 [45] none (fun r4 => qb r4) [.agg (W30 a0)] (F62_ok _ _) (fun r4 => ?_)))))))))))))))))))))
  refine SimI.rn 2 [(48, qb (!(r4))), (47, qb (!(r4)))] [] (.sp 48 _ ?_ ?_)
  ·exact SimI.rd 11 ([(59, qb true)] ++ rp W58 tz) [] (.thenN (.ct (.sr 1 [(2, qb false)] [] (.ret (.blockR (.thenR (.loopR (.blockR (.thenR .fn)))))))))
  ·refine SimI.rn 3 [(51, qj 0), (50, .one (li .u8 a0.Mask)), (49, qp 1 1)] [] (.cl 52 true [[], []] 80 [50, 51] (some (48, false)) (fun r5 => qb r5) [.one (li .u8 a0.Mask), qj 0] (F80_ok _ _ _) (fun r5 => ?_))
   refine SimI.rn 2 (W44 r5) [] (.sp 54 _ ?_ ?_)
   ·refine SimI.rn 2 [(56, .agg [lj 0, ls be]), (55, .agg (W30 a0))] [] (.se ⟨some 57, .prim (.bin .neq 51 false false) [55, 56], some (54, true), []⟩ [(57, qb (!(Field.eqb a0.F.a0 (Field.mk 0 be))))] [] (pe (ep (Field_eqn a0.F.a0 (Field.mk 0 be) _ _))) (.rd 2 (rp [59, 58] (qb (!(Field.eqb a0.F.a0 (Field.mk 0 be))))) [] (.thenN (.cd _ ?_ ?_))))
    ·exact Sim.sr 1 [(2, qb false)] [] (.ret (.blockR (.thenR (.loopR (.blockR (.thenR .fn))))))
    ·refine Sim.skip (.blockN (.thenN (.region0 (.rd 2 [(41, qj 1), (60, qj 1)] [] (.loopN (.pr [1, 40, 41] [1, 4] [] (w6 a0) (W4 a0) ?_))))))
     exact F73_u6_ok n a0
   ·refine SimI.rd 5 W42 [] (.thenN (.cf (.skip (.blockN (.thenN (.region0 (.rd 2 [(41, qj 1), (60, qj 1)] [] (.loopN (.pr [1, 40, 41] [1, 4] [] (w6 a0) (W4 a0) ?_)))))))))
    exact F73_u6_ok n a0
def F73 (n : Nat) (a0 : Delta) : Option Bool :=
 if decide (a0.ID < 0) then
  some false
 else
  if decide ((1000000 : Int) < a0.ID) then
   some false
  else
   if a0.Mask == 0 then
    some false
   else
    if decide ((31 : Int) < a0.Mask) then
     some false
    else
     if (bitsI .and .u8 a0.Mask 1) == 0 then
      if !(Point.eqb a0.At (Point.mk 0 0)) then
       some false
      else
       (F77 n a0.At).bind fun (r1 : Bool) =>
       if !(r1) then
        some false
       else
        F73_j3 n a0
     else
      (F77 n a0.At).bind fun (r2 : Bool) =>
      if !(r2) then
       some false
      else
       F73_j3 n a0
theorem F73_ok (n : Nat) (a0 : Delta) : ∀ r, F73 n a0 = some r → D 73 [.agg (Delta.cells a0)] [] = some (F73_e r) := by
 refine fn_to (D := D) (n := n + 8) (nt := 61) (rs := pc73_r) (c := p73c44) (L := [(0, .agg (Delta.cells a0))]) (M := []) (k := 0) rfl rfl rfl rfl rfl rfl rfl ?_
 unfold F73
 refine Sim.sr 2 W22 (W4 a0) (.seq (.st 4 (rp [8, 7] (qb (decide (a0.ID < 0))) ++ [(6, qj a0.ID), (5, qp 1 0)]) [] (.sp 8 _ ?_ ?_)))
 ·exact SimI.rd 14 [(22, qb true), (21, tz), (20, tz), (19, tz), (18, qb true), (17, qb true), (16, tz), (15, tz), (14, tz), (13, qb true), (12, qb true), (11, tz), (10, tz), (9, tz)] [] (.thenN (.ct (.sr 1 [(2, qb false)] [] (.ret (.thenR .fn)))))
 ·refine SimI.rn 5 (rp [13, 12, 11] (qb (decide ((1000000 : Int) < a0.ID))) ++ [(10, qj a0.ID), (9, qp 1 0)]) [] (.sp 13 _ ?_ ?_)
  ·exact SimI.rd 9 [(22, qb true), (21, tz), (20, tz), (19, tz), (18, qb true), (17, qb true), (16, tz), (15, tz), (14, tz)] [] (.thenN (.ct (.sr 1 [(2, qb false)] [] (.ret (.thenR .fn)))))
  ·refine SimI.rn 5 (rp [18, 17, 16] (qb (a0.Mask == 0)) ++ [(15, .one (li .u8 a0.Mask)), (14, qp 1 1)]) [] (.sp 18 _ ?_ ?_)
   ·exact SimI.rd 4 [(22, qb true), (21, tz), (20, tz), (19, tz)] [] (.thenN (.ct (.sr 1 [(2, qb false)] [] (.ret (.thenR .fn)))))
   ·refine SimI.rd 4 (rp [22, 21] (qb (decide ((31 : Int) < a0.Mask))) ++ [(20, .one (li .u8 a0.Mask)), (19, qp 1 1)]) [] (.thenN (.cd _ ?_ ?_))
    ·exact Sim.sr 1 [(2, qb false)] [] (.ret (.thenR .fn))
    ·refine Sim.skip (.thenN (.seq (.st 5 (rp [27, 26] (qb ((bitsI .and .u8 a0.Mask 1) == 0)) ++ [(25, .one (li .u8 (bitsI .and .u8 a0.Mask 1))), (24, .one (li .u8 a0.Mask)), (23, qp 1 1)]) [] (.sp 27 _ ?_ ?_))))
     ·refine SimI.rn 3 [(30, .agg [lj 0, lj 0]), (29, .agg [lj a0.At.X, lj a0.At.Y]), (28, qp 1 2)] [] (.se ⟨some 31, .prim (.bin .neq 49 false false) [29, 30], some (27, true), []⟩ [(31, qb (!(Point.eqb a0.At (Point.mk 0 0))))] [] (pe (ep (Point_eqn a0.At (Point.mk 0 0) _ _))) (.rn 2 (rp [33, 32] (qb (!(Point.eqb a0.At (Point.mk 0 0))))) [] (.sp 33 _ ?_ ?_)))
      ·exact SimI.rd 5 [(38, qb true), (37, tz), (36, tz), (35, tz), (34, tz)] [] (.thenN (.ct (.sr 1 [(2, qb false)] [] (.ret (.thenR .fn)))))
      ·refine SimI.rn 2 [(35, .agg [lj a0.At.X, lj a0.At.Y]), (34, qp 1 2)] [] (.cl 36 true [[]] 77 [35] (some (33, false)) (fun r1 => qb r1) [.agg [lj a0.At.X, lj a0.At.Y]] (F77_ok _ _) (fun r1 => ?_))
       refine SimI.rd 2 [(38, qb (!(r1))), (37, qb (!(r1)))] [] (.thenN (.cd _ ?_ ?_))
       ·exact Sim.sr 1 [(2, qb false)] [] (.ret (.thenR .fn))
       ·refine Sim.skip (.thenN (.pr [1] [1] [] [(1, qp 1 0)] (W4 a0) ?_))
        exact F73_j3_ok n a0
     ·refine SimI.rn 8 [(35, .agg [lj a0.At.X, lj a0.At.Y]), (34, qp 1 2), (33, qb false), (32, qb false), (31, tz), (30, tz), (29, tz), (28, tz)] [] (.cl 36 true [[]] 77 [35] (some (33, false)) (fun r2 => qb r2) [.agg [lj a0.At.X, lj a0.At.Y]] (F77_ok _ _) (fun r2 => ?_))
      refine SimI.rd 2 [(38, qb (!(r2))), (37, qb (!(r2)))] [] (.thenN (.cd _ ?_ ?_))
      ·exact Sim.sr 1 [(2, qb false)] [] (.ret (.thenR .fn))
      ·refine Sim.skip (.thenN (.pr [1] [1] [] [(1, qp 1 0)] (W4 a0) ?_))
       exact F73_j3_ok n a0
def F57_e : Bool → PV × List Ob := fun r => (.one (lb r), [])
def F57 (n : Nat) (a0 : Event) : Option Bool :=
 if a0.Kind == 1 then
  (F72 n a0.Thing).bind fun (r1 : Bool) =>
  if r1 then
   if a0.ID == a0.Thing.ID then
    some (Delta.eqb a0.Delta (Delta.mk 0 0 (Point.mk 0 0) (A4.mk (Field.mk 0 ByteArray.empty) (Field.mk 0 ByteArray.empty) (Field.mk 0 ByteArray.empty) (Field.mk 0 ByteArray.empty))))
   else
    some false
  else
   some false
 else
  if a0.Kind == 2 then
   (F73 n a0.Delta).bind fun (r2 : Bool) =>
   if r2 then
    if a0.ID == a0.Delta.ID then
     some (Thing.eqb a0.Thing (Thing.mk 0 (Point.mk 0 0) (A4.mk (Field.mk 0 ByteArray.empty) (Field.mk 0 ByteArray.empty) (Field.mk 0 ByteArray.empty) (Field.mk 0 ByteArray.empty))))
    else
     some false
   else
    some false
  else
   if a0.Kind == 3 then
    if decide ((0 : Int) ≤ a0.ID) then
     if decide (a0.ID ≤ 1000000) then
      if Thing.eqb a0.Thing (Thing.mk 0 (Point.mk 0 0) (A4.mk (Field.mk 0 ByteArray.empty) (Field.mk 0 ByteArray.empty) (Field.mk 0 ByteArray.empty) (Field.mk 0 ByteArray.empty))) then
       some (Delta.eqb a0.Delta (Delta.mk 0 0 (Point.mk 0 0) (A4.mk (Field.mk 0 ByteArray.empty) (Field.mk 0 ByteArray.empty) (Field.mk 0 ByteArray.empty) (Field.mk 0 ByteArray.empty))))
      else
       some false
     else
      some false
    else
     some false
   else
    some false
theorem F57_ok (n : Nat) (a0 : Event) : ∀ r, F57 n a0 = some r → D 57 [.agg (Event.cells a0)] [] = some (F57_e r) := by
 refine fn_to (D := D) (n := n + 8) (nt := 63) (rs := pc57_r) (c := p57c30) (L := [(0, .agg (Event.cells a0))]) (M := []) (k := 0) rfl rfl rfl rfl rfl rfl rfl ?_
 unfold F57
 refine Sim.sr 2 W22 [(1, some (.cells (Event.cells a0)))] (.st 3 [(7, .agg W0), (6, .agg (Thing.cells a0.Thing)), (5, qp 1 2)] [] (.se ⟨some 8, .prim (.bin .eql 54 false false) [6, 7], none, [(6, .imm), (7, .imm)]⟩ [(8, qb (Thing.eqb a0.Thing (Thing.mk 0 (Point.mk 0 0) (A4.mk (Field.mk 0 be) (Field.mk 0 be) (Field.mk 0 be) (Field.mk 0 be)))))] [] (pe (ep (Thing_eql a0.Thing (Thing.mk 0 (Point.mk 0 0) (A4.mk (Field.mk 0 be) (Field.mk 0 be) (Field.mk 0 be) (Field.mk 0 be))) _ _))) (.rn 3 [(11, .agg W45), (10, .agg (Delta.cells a0.Delta)), (9, qp 1 13)] [] (.se ⟨some 12, .prim (.bin .eql 56 false false) [10, 11], none, [(10, .imm), (11, .imm)]⟩ [(12, qb (Delta.eqb a0.Delta (Delta.mk 0 0 (Point.mk 0 0) (A4.mk (Field.mk 0 be) (Field.mk 0 be) (Field.mk 0 be) (Field.mk 0 be)))))] [] (pe (ep (Delta_eql a0.Delta (Delta.mk 0 0 (Point.mk 0 0) (A4.mk (Field.mk 0 be) (Field.mk 0 be) (Field.mk 0 be) (Field.mk 0 be))) _ _))) (.rd 2 [(4, qb (Delta.eqb a0.Delta (Delta.mk 0 0 (Point.mk 0 0) (A4.mk (Field.mk 0 be) (Field.mk 0 be) (Field.mk 0 be) (Field.mk 0 be))))), (3, qb (Thing.eqb a0.Thing (Thing.mk 0 (Point.mk 0 0) (A4.mk (Field.mk 0 be) (Field.mk 0 be) (Field.mk 0 be) (Field.mk 0 be)))))] [] (.thenN (.seq (.sr 2 [(14, qj a0.Kind), (13, qp 1 0)] [] (.block (.sr 2 (rp [15, 16] (qb (a0.Kind == 1))) [] (.cd _ ?_ ?_)))))))))))
 ·refine Sim.st 2 [(18, .agg (Thing.cells a0.Thing)), (17, qp 1 2)] [] (.cl 19 true [[]] 72 [18] none (fun r1 => qb r1) [.agg (Thing.cells a0.Thing)] (F72_ok _ _) (fun r1 => ?_))
  refine SimI.rn 1 [(20, qb r1)] [] (.sp 20 _ ?_ ?_)
  ·refine SimI.rn 8 (rp [28, 27, 26] (qb (a0.ID == a0.Thing.ID)) ++ [(25, qj a0.Thing.ID), (24, qp 1 2), (23, qp 1 2), (22, qj a0.ID), (21, qp 1 1)]) [] (.sp 28 _ ?_ ?_)
   ·exact SimI.rd 3 (rp [2, 30, 29] (qb (Delta.eqb a0.Delta (Delta.mk 0 0 (Point.mk 0 0) (A4.mk (Field.mk 0 be) (Field.mk 0 be) (Field.mk 0 be) (Field.mk 0 be)))))) [] (.thenN (.ret (.blockR (.thenR .fn))))
   ·exact SimI.rd 3 [(2, qb false), (30, qb false), (29, tz)] [] (.thenN (.ret (.blockR (.thenR .fn))))
  ·exact SimI.rd 11 ([(2, qb false), (30, qb false), (29, tz), (28, qb false), (27, qb false)] ++ rp [26, 25, 24, 23, 22, 21] tz) [] (.thenN (.ret (.blockR (.thenR .fn))))
 ·refine Sim.sr 2 (rp [31, 32] (qb (a0.Kind == 2))) [] (.cd _ ?_ ?_)
  ·refine Sim.st 2 [(34, .agg (Delta.cells a0.Delta)), (33, qp 1 13)] [] (.cl 35 true [[]] 73 [34] none (fun r2 => qb r2) [.agg (Delta.cells a0.Delta)] (F73_ok _ _) (fun r2 => ?_))
   refine SimI.rn 1 [(36, qb r2)] [] (.sp 36 _ ?_ ?_)
   ·refine SimI.rn 8 (rp [44, 43, 42] (qb (a0.ID == a0.Delta.ID)) ++ [(41, qj a0.Delta.ID), (40, qp 1 13), (39, qp 1 13), (38, qj a0.ID), (37, qp 1 1)]) [] (.sp 44 _ ?_ ?_)
    ·exact SimI.rd 3 (rp [2, 46, 45] (qb (Thing.eqb a0.Thing (Thing.mk 0 (Point.mk 0 0) (A4.mk (Field.mk 0 be) (Field.mk 0 be) (Field.mk 0 be) (Field.mk 0 be)))))) [] (.thenN (.ret (.blockR (.thenR .fn))))
    ·exact SimI.rd 3 [(2, qb false), (46, qb false), (45, tz)] [] (.thenN (.ret (.blockR (.thenR .fn))))
   ·exact SimI.rd 11 ([(2, qb false), (46, qb false), (45, tz), (44, qb false), (43, qb false)] ++ rp [42, 41, 40, 39, 38, 37] tz) [] (.thenN (.ret (.blockR (.thenR .fn))))
  ·refine Sim.sr 2 (rp [47, 48] (qb (a0.Kind == 3))) [] (.cd _ ?_ ?_)
   ·refine Sim.st 4 (rp [52, 51] (qb (decide ((0 : Int) ≤ a0.ID))) ++ [(50, qj a0.ID), (49, qp 1 1)]) [] (.sp 52 _ ?_ ?_)
    ·refine SimI.rn 5 (rp [57, 56, 55] (qb (decide (a0.ID ≤ 1000000))) ++ [(54, qj a0.ID), (53, qp 1 1)]) [] (.sp 57 _ ?_ ?_)
     ·refine SimI.rn 3 (rp [60, 59, 58] (qb (Thing.eqb a0.Thing (Thing.mk 0 (Point.mk 0 0) (A4.mk (Field.mk 0 be) (Field.mk 0 be) (Field.mk 0 be) (Field.mk 0 be)))))) [] (.sp 60 _ ?_ ?_)
      ·exact SimI.rd 3 (rp [2, 62, 61] (qb (Delta.eqb a0.Delta (Delta.mk 0 0 (Point.mk 0 0) (A4.mk (Field.mk 0 be) (Field.mk 0 be) (Field.mk 0 be) (Field.mk 0 be)))))) [] (.thenN (.ret (.blockR (.thenR .fn))))
      ·exact SimI.rd 3 [(2, qb false), (62, qb false), (61, tz)] [] (.thenN (.ret (.blockR (.thenR .fn))))
     ·exact SimI.rd 6 [(2, qb false), (62, qb false), (61, tz), (60, qb false), (59, qb false), (58, tz)] [] (.thenN (.ret (.blockR (.thenR .fn))))
    ·exact SimI.rd 11 [(2, qb false), (62, qb false), (61, tz), (60, qb false), (59, qb false), (58, tz), (57, qb false), (56, qb false), (55, tz), (54, tz), (53, tz)] [] (.thenN (.ret (.blockR (.thenR .fn))))
   ·exact Sim.skip (.blockN (.thenN (.sr 1 [(2, qb false)] [] (.ret .fn))))
def F56_e : Bool → PV × List Ob := fun r => (.one (lb r), [])
def F56 (n : Nat) (a0 : Event) : Option Bool :=
 (F57 n a0).bind fun (r1 : Bool) =>
 some (!(r1))
theorem F56_ok (n : Nat) (a0 : Event) : ∀ r, F56 n a0 = some r → D 56 [.agg (Event.cells a0)] [] = some (F56_e r) := by
 refine fn_to (D := D) (n := n + 8) (nt := 6) (rs := pc56_r) (c := p56c5) (L := [(0, .agg (Event.cells a0))]) (M := []) (k := 0) rfl rfl rfl rfl rfl rfl rfl ?_
 unfold F56
 refine Sim.sr 2 W22 [(1, some (.cells (Event.cells a0)))] (.st 1 [(3, .agg (Event.cells a0))] [] (.cl 4 true [[]] 57 [3] none (fun r1 => qb r1) [.agg (Event.cells a0)] (F57_ok _ _) (fun r1 => ?_)))
 exact SimI.rd 2 [(2, qb (!(r1))), (5, qb (!(r1)))] [] (.thenN (.ret .fn))
def F71s0_e (a0 : (List Event)) : Int → PV × List Ob := fun r => (.one (li .i64 r), [])
def F71s0_l4 (n : Nat) (a0 : (List Event)) : Nat → Int → Option Int
 | 0, _ => none
 | m + 1, i3 =>
  if decide (i3 < ((a0).length : Int)) then
   (ix a0 i3).bind fun (x5 : Event) =>
   (F56 n x5).bind fun (r6 : Bool) =>
   if r6 then
    some i3
   else
    (F71s0_l4 n a0 m) (IntKind.wrap .i64 (i3 + 1))
  else
   some (-1)
theorem F71s0_l4_ok (n : Nat) (a0 : (List Event)) : ∀ (m : Nat) (i3 : Int), SimL Try.prog D (n + 8) m p71c20 [(0, .one (vw Event.cod a0)), (1, .one (.val (.func (.func 56) #[] #[]))), (7, qj ((a0).length : Int)), (8, qj i3)] [] (F71s0_l4 n a0 m i3) (QB 0 (QT Try.prog D (n + 8) p71c26 (QF false pc71_r 0 (F71s0_e a0)))) := by
 intro m_l4
 induction m_l4 with
 | zero => intro i3; exact SimL.zero'  rfl
 | succ m_l4 ih_l4 =>
  intro i3
  refine SimL.succ ?_
  unfold F71s0_l4
  refine Sim.seq (.rg [(0, .one (vw Event.cod a0)), (1, .one (.val (.func (.func 56) #[] #[]))), (7, qj ((a0).length : Int)), (8, qj i3)] [] (.rd 1 [(9, qb (decide (i3 < ((a0).length : Int))))] [] (.thenN (.seq (.cd _ ?_ ?_)))))
  ·refine Sim.skip (.thenN (.seq (.block (.sr 2 [(5, qj i3), (10, qj i3)] [] (.st 3 [(13, qj i3), (12, .one (vw Event.cod a0)), (11, .one (.val (.func (.func 56) #[] #[])))] [] (.bn ⟨some 14, .iaddrS 25 12 13, none, []⟩ (fun x5 => [(14, .one (.eptr (Event.cod.enc x5) 0))]) (fun x5 => []) (fun x5 hr => pe (ei (c := Event.cod) (k := .i64) hr)) (fun x5 => ?_)))))))
   refine SimI.rn 1 [(15, .agg (Event.cells x5))] [] (.bn ⟨some 16, .callv true [[]] 11 [15], none, []⟩ (fun r6 => [(16, qb r6)]) (fun r6 => []) (fun r6 hr => pe (eff_callvv (by kernel_rfl) (ARGS := [.agg (Event.cells x5)]) (by kernel_rfl) (args_clean (by kernel_rfl) args_nil) (F56_ok _ _ _ hr) (by kernel_rfl))) (fun r6 => ?_))
   refine SimI.dn (.thenN (.cd _ ?_ ?_))
   ·exact Sim.sr 2 [(4, qj i3), (17, qj i3)] [] (.ret (.blockR (.thenR (.loopR (.blockR (.thenR .fn))))))
   ·refine Sim.skip (.blockN (.thenN (.region0 (.rd 2 (rp [8, 18] (qj (iw .i64 (i3 + 1)))) [] (.loopN (.pr [0, 1, 7, 8] [] [] [(0, .one (vw Event.cod a0)), (1, .one (.val (.func (.func 56) #[] #[]))), (7, qj ((a0).length : Int)), (8, qj (iw .i64 (i3 + 1)))] [] ?_))))))
    exact ih_l4 (iw .i64 (i3 + 1))
  ·exact Sim.exit (.thenX (.loopX (.blockX (.thenN (.sr 1 [(4, qj (-1))] [] (.ret .fn))))))
def F71s0 (n : Nat) (a0 : (List Event)) : Option Int :=
 F71s0_l4 n a0 (n + 8) 0
theorem F71s0_ok (n : Nat) (a0 : (List Event)) : ∀ r, F71s0 n a0 = some r → D 71 [.one (vw Event.cod a0), .one (.val (.func (.func 56) #[] #[]))] [] = some ((F71s0_e a0) r) := by
 refine fn_to (D := D) (n := n + 8) (nt := 19) (rs := pc71_r) (c := p71c28) (L := [(0, .one (vw Event.cod a0)), (1, .one (.val (.func (.func 56) #[] #[])))]) (M := []) (k := 0) rfl rfl rfl rfl rfl rfl rfl ?_
 unfold F71s0
 refine Sim.sr 1 [(4, qj 0)] [] (.seq (.sr 3 [(8, qj 0), (7, qj ((a0).length : Int)), (6, .one (vw Event.cod a0))] [] (.block (.loop (.pr [0, 1, 7, 8] [] [] [(0, .one (vw Event.cod a0)), (1, .one (.val (.func (.func 56) #[] #[]))), (7, qj ((a0).length : Int)), (8, qj 0)] [] ?_)))))
 exact F71s0_l4_ok n a0 (n + 8) 0
def F55s0_e (a0 : (List Event)) : Bool → PV × List Ob := fun r => (.one (lb r), [])
def F55s0 (n : Nat) (a0 : (List Event)) : Option Bool :=
 (F71s0 n a0).bind fun (r1 : Int) =>
 some (decide ((0 : Int) ≤ r1))
theorem F55s0_ok (n : Nat) (a0 : (List Event)) : ∀ r, F55s0 n a0 = some r → D 55 [.one (vw Event.cod a0), .one (.val (.func (.func 56) #[] #[]))] [] = some ((F55s0_e a0) r) := by
 refine fn_to (D := D) (n := n + 8) (nt := 9) (rs := pc55_r) (c := p55c5) (L := [(0, .one (vw Event.cod a0)), (1, .one (.val (.func (.func 56) #[] #[])))]) (M := []) (k := 0) rfl rfl rfl rfl rfl rfl rfl ?_
 unfold F55s0
 refine Sim.sr 1 [(4, qb false)] [] (.st 2 [(6, .one (.val (.func (.func 56) #[] #[]))), (5, .one (vw Event.cod a0))] [] (.bn ⟨some 7, .gcall false false W8 [[(0, 25)], []] 71 [5, 6], none, []⟩ (fun r1 => [(7, qj r1)]) (fun r1 => []) (fun r1 hr => pe (gq (ks := []) (ARGS := [.one (vw Event.cod a0), .one (.val (.func (.func 56) #[] #[]))]) (F71s0_ok _ _ _ hr))) (fun r1 => ?_)))
 exact SimI.rd 2 (rp [4, 8] (qb (decide ((0 : Int) ≤ r1)))) [] (.thenN (.ret .fn))
def F44_e : (Bool × View) → PV × List Ob := fun r => (.one (lb r.1), [.cells [li .i64 r.2.client, li .i64 r.2.session, li .i64 r.2.n, li .i64 r.2.beat, li .i64 r.2.start, vw Thing.cod r.2.things, .osl 1000001 1 0 (r.2.log_).length, .mp 1000002], .arr 58 Event.cod.sz 1 (r.2.log_).length (getOf Event.cod r.2.log_), .map (mapOf Key.cells Event.cod r.2.wait)])
def F44_j1 (n : Nat) (a0 : View) (a1 : Frame) : Option (Bool × View) :=
  if decide (a1.Beat ≤ a0.beat) then
   some (false, a0)
  else
   if decide ((36 : Int) < IntKind.wrap .i64 (a1.Beat - imax a1.Start a0.beat)) then
    some (false, a0)
   else
    if mhas (Key.mk a1.From a1.Beat) a0.wait then
     some (false, a0)
    else
     (F55s0 n a1.Events).bind fun (r2 : Bool) =>
     some (!(r2), a0)
theorem F44_j1_ok (n : Nat) (a0 : View) (a1 : Frame) : Sim Try.prog D (n + 8) p44c16 W38 [(3, some (.cells [lj a1.From, lj a1.Client, lj a1.Session, lj a1.Start, lj a1.Beat, vw Event.cod a1.Events])), (1000000, some (.cells (W9 a0))), (1000001, some (.arr 58 Event.cod.sz 1 (a0.log_).length (getOf Event.cod a0.log_))), (1000002, some (.map (mapOf Key.cells Event.cod a0.wait)))] (F44_j1 n a0 a1) (QB 0 (QT Try.prog D (n + 8) p44c34 (QF false pc44_r 3 F44_e))) := by
  unfold F44_j1
  refine Sim.seq (.rg W38 [(3, some (.cells (w0 a1))), (1000000, some (.cells (W9 a0))), (1000001, some (.arr 58 Event.cod.sz 1 (a0.log_).length (getOf Event.cod a0.log_))), (1000002, some (.map (mapOf Key.cells Event.cod a0.wait)))] (.rn 8 (rp [73, 72] (qb (decide (a1.Beat ≤ a0.beat))) ++ [(71, qj a0.beat), (70, qp 1000000 3), (69, qp 1000000 0), (68, qp 1000000 0), (67, qj a1.Beat), (66, qp 3 4)]) [] (.sp 73 _ ?_ ?_)))
  ·exact SimI.rd 13 ([(65, qb true), (85, qb true)] ++ rp W16 tz) [] (.thenN (.ct (.sr 1 [(4, qb false)] [] (.ret (.blockR (.thenR .fn))))))
  ·refine SimI.rd 13 (rp [65, 85, 84] (qb (decide ((36 : Int) < IntKind.wrap .i64 (a1.Beat - imax a1.Start a0.beat)))) ++ [(83, qj (iw .i64 (a1.Beat - imax a1.Start a0.beat))), (82, qj (imax a1.Start a0.beat)), (81, qj a0.beat), (80, qp 1000000 3), (79, qp 1000000 0), (78, qp 1000000 0), (77, qj a1.Start), (76, qp 3 3), (75, qj a1.Beat), (74, qp 3 4)]) [] (.thenN (.cd _ ?_ ?_))
   ·exact Sim.sr 1 [(4, qb false)] [] (.ret (.blockR (.thenR .fn)))
   ·refine Sim.skip (.blockN (.thenN (.seq (.st 9 [(95, .agg [lj a1.From, lj a1.Beat]), (94, qj a1.Beat), (93, qp 3 4), (92, qj a1.From), (91, qp 3 0), (90, .one (.mp 1000002)), (89, qp 1000000 7), (88, qp 1000000 0), (87, qp 1000000 0)] [] (.se ⟨some 96, .mlook true 97 [(0, 25)] 90 95, none, [(90, Hint.obj 1000002), (95, .imm)]⟩ [(96, .tup (W68 a1 a0))] [] (pe (eff_mlook (sz := 25) (c := Event.cod) Key_map (m := 1000002) (l := a0.wait) (key := (Key.mk a1.From a1.Beat)) (by kernel_rfl) (by kernel_rfl) (by kernel_rfl) (by kernel_rfl) true)) (.rd 5 [(6, qb (mhas (Key.mk a1.From a1.Beat) a0.wait)), (5, .one (vw Event.cod (mget (Key.mk a1.From a1.Beat) a0.wait))), (98, qb (mhas (Key.mk a1.From a1.Beat) a0.wait)), (97, .one (vw Event.cod (mget (Key.mk a1.From a1.Beat) a0.wait))), (86, .tup (W68 a1 a0))] [] (.thenN (.sr 1 [(99, qb (mhas (Key.mk a1.From a1.Beat) a0.wait))] [] (.cd _ ?_ ?_)))))))))
    ·exact Sim.sr 1 [(4, qb false)] [] (.ret (.thenR .fn))
    ·refine Sim.skip (.thenN (.st 2 [(101, .one (vw Event.cod a1.Events)), (100, qp 3 5)] [] (.bn ⟨some 102, .gcall false false W8 [[(0, 25)], []] 55 [101, Operand.func 56], none, []⟩ (fun r2 => [(102, qb r2)]) (fun r2 => []) (fun r2 hr => pe (gq (ks := []) (ARGS := [.one (vw Event.cod a1.Events), .one (.val (.func (.func 56) #[] #[]))]) (F55s0_ok _ _ _ hr))) (fun r2 => ?_))))
     exact SimI.rd 2 [(4, qb (!(r2))), (103, qb (!(r2)))] [] (.thenN (.ret .fn))
def F44 (n : Nat) (a0 : View) (a1 : Frame) : Option (Bool × View) :=
 if a1.Client != a0.client then
  some (false, a0)
 else
  if a1.Session != a0.session then
   some (false, a0)
  else
   if decide (a1.From < 0) then
    some (false, a0)
   else
    if decide (a0.n ≤ a1.From) then
     some (false, a0)
    else
     if decide (a1.Start < 0) then
      some (false, a0)
     else
      if decide (a1.Beat < a1.Start) then
       some (false, a0)
      else
       if a0.start != (-1) then
        if a1.Start != a0.start then
         some (false, a0)
        else
         F44_j1 n a0 a1
       else
        F44_j1 n a0 a1
theorem F44_ok (n : Nat) (a0 : View) (a1 : Frame) : ∀ r, F44 n a0 a1 = some r → D 44 [.one (.ptr 1000000 0), .agg [li .i64 a1.From, li .i64 a1.Client, li .i64 a1.Session, li .i64 a1.Start, li .i64 a1.Beat, vw Event.cod a1.Events]] [.cells [li .i64 a0.client, li .i64 a0.session, li .i64 a0.n, li .i64 a0.beat, li .i64 a0.start, vw Thing.cod a0.things, .osl 1000001 0 0 (a0.log_).length, .mp 1000002], .arr 58 Event.cod.sz 0 (a0.log_).length (getOf Event.cod a0.log_), .map (mapOf Key.cells Event.cod a0.wait)] = some (F44_e r) := by
 refine fn_to (D := D) (n := n + 8) (nt := 104) (rs := pc44_r) (c := p44c36) (L := [(0, qp 1000000 0), (1, .agg (w0 a1))]) (M := (W1 a0)) (k := 3) rfl rfl rfl rfl rfl rfl rfl ?_
 unfold F44
 refine Sim.sr 2 [(4, qb false), (3, qp 3 0)] [(3, some (.cells (w0 a1)))] (.seq (.block (.st 8 (rp [15, 14] (qb (a1.Client != a0.client)) ++ [(13, qj a0.client)] ++ rp [12, 11, 10] (qp 1000000 0) ++ [(9, qj a1.Client), (8, qp 3 1)]) [] (.sp 15 _ ?_ ?_))))
 ·exact SimI.rd 23 ([(7, qb true), (37, qb true)] ++ rp [36, 35, 34, 33, 32, 31, 30] tz ++ [(29, qb true), (28, qb true), (27, tz), (26, tz), (25, tz), (24, qb true), (23, qb true)] ++ rp [22, 21, 20, 19, 18, 17, 16] tz) [] (.thenN (.ct (.sr 1 [(4, qb false)] [] (.ret (.blockR (.thenR .fn))))))
 ·refine SimI.rn 9 (rp [24, 23, 22] (qb (a1.Session != a0.session)) ++ [(21, qj a0.session), (20, qp 1000000 1), (19, qp 1000000 0), (18, qp 1000000 0), (17, qj a1.Session), (16, qp 3 2)]) [] (.sp 24 _ ?_ ?_)
  ·exact SimI.rd 14 ([(7, qb true), (37, qb true)] ++ rp [36, 35, 34, 33, 32, 31, 30] tz ++ [(29, qb true), (28, qb true), (27, tz), (26, tz), (25, tz)]) [] (.thenN (.ct (.sr 1 [(4, qb false)] [] (.ret (.blockR (.thenR .fn))))))
  ·refine SimI.rn 5 (rp [29, 28, 27] (qb (decide (a1.From < 0))) ++ [(26, qj a1.From), (25, qp 3 0)]) [] (.sp 29 _ ?_ ?_)
   ·exact SimI.rd 9 ([(7, qb true), (37, qb true)] ++ rp [36, 35, 34, 33, 32, 31, 30] tz) [] (.thenN (.ct (.sr 1 [(4, qb false)] [] (.ret (.blockR (.thenR .fn))))))
   ·refine SimI.rd 9 (rp [7, 37, 36] (qb (decide (a0.n ≤ a1.From))) ++ [(35, qj a0.n), (34, qp 1000000 2), (33, qp 1000000 0), (32, qp 1000000 0), (31, qj a1.From), (30, qp 3 0)]) [] (.thenN (.cd _ ?_ ?_))
    ·exact Sim.sr 1 [(4, qb false)] [] (.ret (.blockR (.thenR .fn)))
    ·refine Sim.st 4 (rp [42, 41] (qb (decide (a1.Start < 0))) ++ [(40, qj a1.Start), (39, qp 3 3)]) [] (.sp 42 _ ?_ ?_)
     ·exact SimI.rd 23 ([(38, qb true), (64, qb true)] ++ rp [63, 62, 61, 60, 59, 58, 57, 56, 55, 54, 53, 52, 51, 50] tz ++ [(49, qb true), (48, qb true)] ++ rp [47, 46, 45, 44, 43] tz) [] (.thenN (.ct (.sr 1 [(4, qb false)] [] (.ret (.blockR (.thenR .fn))))))
     ·refine SimI.rn 7 (rp [49, 48, 47] (qb (decide (a1.Beat < a1.Start))) ++ [(46, qj a1.Beat), (45, qp 3 4), (44, qj a1.Start), (43, qp 3 3)]) [] (.sp 49 _ ?_ ?_)
      ·exact SimI.rd 16 ([(38, qb true), (64, qb true)] ++ rp [63, 62, 61, 60, 59, 58, 57, 56, 55, 54, 53, 52, 51, 50] tz) [] (.thenN (.ct (.sr 1 [(4, qb false)] [] (.ret (.blockR (.thenR .fn))))))
      ·refine SimI.rn 6 (rp [55, 54] (qb (a0.start != (-1))) ++ [(53, qj a0.start), (52, qp 1000000 4), (51, qp 1000000 0), (50, qp 1000000 0)]) [] (.sp 55 _ ?_ ?_)
       ·refine SimI.rd 10 (rp [38, 64, 63, 62] (qb (a1.Start != a0.start)) ++ [(61, qj a0.start), (60, qp 1000000 4), (59, qp 1000000 0), (58, qp 1000000 0), (57, qj a1.Start), (56, qp 3 3)]) [] (.thenN (.cd _ ?_ ?_))
        ·exact Sim.sr 1 [(4, qb false)] [] (.ret (.blockR (.thenR .fn)))
        ·refine Sim.pr [0, 3] W26 [] W38 [(3, some (.cells (w0 a1))), (1000000, some (.cells (W9 a0))), (1000001, some (.arr 58 Event.cod.sz 1 (a0.log_).length (getOf Event.cod a0.log_))), (1000002, some (.map (mapOf Key.cells Event.cod a0.wait)))] ?_
         exact F44_j1_ok n a0 a1
       ·refine SimI.rd 10 (rp [38, 64, 63] (qb false) ++ rp [62, 61, 60, 59, 58, 57, 56] tz) [] (.thenN (.cf (.pr [0, 3] W26 [] W38 [(3, some (.cells (w0 a1))), (1000000, some (.cells (W9 a0))), (1000001, some (.arr 58 Event.cod.sz 1 (a0.log_).length (getOf Event.cod a0.log_))), (1000002, some (.map (mapOf Key.cells Event.cod a0.wait)))] ?_)))
        exact F44_j1_ok n a0 a1
def F92_e : Bool → PV × List Ob := fun r => (.one (lb r), [])
def F92 (n : Nat) (a0 : Int) : Option Bool :=
 some (a0 != a0)
theorem F92_ok (n : Nat) (a0 : Int) : ∀ r, F92 n a0 = some r → D 92 [.one (li .i64 a0)] [] = some (F92_e r) := by
 refine fn_to (D := D) (n := n + 8) (nt := 6) (rs := pc92_r) (c := p92c5) (L := [(0, qj a0)]) (M := []) (k := 0) rfl rfl rfl rfl rfl rfl rfl ?_
 unfold F92
 exact Sim.sr 1 [(2, qb false)] [] (.sr 4 [(2, qb (a0 != a0)), (5, qb (a0 != a0)), (4, qj a0), (3, qj a0)] [] (.ret .fn))
def F83_e : Int → PV × List Ob := fun r => (.one (li .i64 r), [])
def F83 (n : Nat) (a0 a1 : Int) : Option Int :=
 (F92 n a0).bind fun (r1 : Bool) =>
 (F92 n a1).bind fun (r2 : Bool) =>
 if r1 then
  if r2 then
   some 0
  else
   some (-1)
 else
  if r2 then
   some 1
  else
   if decide (a0 < a1) then
    some (-1)
   else
    if decide (a1 < a0) then
     some 1
    else
     some 0
theorem F83_ok (n : Nat) (a0 a1 : Int) : ∀ r, F83 n a0 a1 = some r → D 83 [.one (li .i64 a0), .one (li .i64 a1)] [] = some (F83_e r) := by
 refine fn_to (D := D) (n := n + 8) (nt := 20) (rs := pc83_r) (c := p83c49) (L := [(0, qj a0), (1, qj a1)]) (M := []) (k := 0) rfl rfl rfl rfl rfl rfl rfl ?_
 unfold F83
 refine Sim.sr 1 [(4, qj 0)] [] (.st 1 [(7, qj a0)] [] (.cl 8 true [[]] 92 [7] none (fun r1 => qb r1) [qj a0] (F92_ok _ _) (fun r1 => ?_)))
 refine SimI.rd 1 [(5, qb r1)] [] (.thenN (.st 1 [(9, qj a1)] [] (.cl 10 true [[]] 92 [9] none (fun r2 => qb r2) [qj a1] (F92_ok _ _) (fun r2 => ?_))))
 refine SimI.rd 1 [(6, qb r2)] [] (.thenN (.seq (.sr 1 [(11, qb r1)] [] (.cd _ ?_ ?_))))
 ·refine Sim.seq (.sr 1 [(12, qb r2)] [] (.cd _ ?_ ?_))
  ·exact Sim.sr 1 [(4, qj 0)] [] (.ret (.thenR (.thenR .fn)))
  ·exact Sim.skip (.thenN (.sr 1 [(4, qj (-1))] [] (.ret (.thenR .fn))))
 ·refine Sim.skip (.thenN (.seq (.sr 1 [(13, qb r2)] [] (.cd _ ?_ ?_))))
  ·exact Sim.sr 1 [(4, qj 1)] [] (.ret (.thenR .fn))
  ·refine Sim.skip (.thenN (.seq (.sr 3 [(16, qb (decide (a0 < a1))), (15, qj a1), (14, qj a0)] [] (.cd _ ?_ ?_))))
   ·exact Sim.sr 1 [(4, qj (-1))] [] (.ret (.thenR .fn))
   ·refine Sim.skip (.thenN (.seq (.sr 3 [(19, qb (decide (a1 < a0))), (18, qj a1), (17, qj a0)] [] (.cd _ ?_ ?_))))
    ·exact Sim.sr 1 [(4, qj 1)] [] (.ret (.thenR .fn))
    ·exact Sim.skip (.thenN (.sr 1 [(4, qj 0)] [] (.ret .fn)))
def F82_e : Int → PV × List Ob := fun r => (.one (li .i64 r), [])
def F82 (n : Nat) (a0 : Thing) (a1 : Int) : Option Int :=
 (F83 n a0.ID a1).bind fun (r1 : Int) =>
 some r1
theorem F82_ok (n : Nat) (a0 : Thing) (a1 : Int) : ∀ r, F82 n a0 a1 = some r → D 82 [.agg (Thing.cells a0), .one (li .i64 a1)] [] = some (F82_e r) := by
 refine fn_to (D := D) (n := n + 8) (nt := 9) (rs := pc82_r) (c := p82c5) (L := [(0, .agg (Thing.cells a0)), (1, qj a1)]) (M := []) (k := 0) rfl rfl rfl rfl rfl rfl rfl ?_
 unfold F82
 refine Sim.sr 2 [(4, qj 0), (2, qp 2 0)] [(2, some (.cells (Thing.cells a0)))] (.st 3 [(7, qj a1), (6, qj a0.ID), (5, qp 2 0)] [] (.cl 8 true [[], []] 83 [6, 7] none (fun r1 => qj r1) [qj a0.ID, qj a1] (F83_ok _ _ _) (fun r1 => ?_)))
 exact SimI.rd 1 [(4, qj r1)] [] (.thenN (.ret .fn))
def F81s0_e (a0 : (List Thing)) (a1 : Int) : (Int × Bool) → PV × List Ob := fun r => (.tup [.one (li .i64 r.1), .one (lb r.2)], [])
def F81s0_l7 (n : Nat) (a0 : (List Thing)) (a1 : Int) : Nat → Int → Int → Option (Int × Bool)
 | 0, _, _ => none
 | m + 1, i5, i6 =>
  if decide (i5 < i6) then
   (ix a0 (IntKind.wrap .i64 (shrI .u64 (IntKind.wrap .u64 (IntKind.wrap .i64 (i5 + i6))) 1))).bind fun (x8 : Thing) =>
   (F82 n x8 a1).bind fun (r9 : Int) =>
   if decide (r9 < 0) then
    (F81s0_l7 n a0 a1 m) (IntKind.wrap .i64 (IntKind.wrap .i64 (shrI .u64 (IntKind.wrap .u64 (IntKind.wrap .i64 (i5 + i6))) 1) + 1)) i6
   else
    (F81s0_l7 n a0 a1 m) i5 (IntKind.wrap .i64 (shrI .u64 (IntKind.wrap .u64 (IntKind.wrap .i64 (i5 + i6))) 1))
  else
   if decide (i5 < ((a0).length : Int)) then
    (ix a0 i5).bind fun (x10 : Thing) =>
    (F82 n x10 a1).bind fun (r11 : Int) =>
    some (i5, (r11 == 0))
   else
    some (i5, false)
theorem F81s0_l7_ok (n : Nat) (a0 : (List Thing)) (a1 : Int) : ∀ (m : Nat) (i5 i6 : Int), SimL Try.prog D (n + 8) m p81c17 [(0, .one (vw Thing.cod a0)), (1, qj a1), (2, .one (.val (.func (.func 82) #[] #[]))), (8, qj ((a0).length : Int)), (9, qj i5), (10, qj i6)] [] (F81s0_l7 n a0 a1 m i5 i6) (QB 0 (QT Try.prog D (n + 8) p81c22 (QF false pc81_r 0 (F81s0_e a0 a1)))) := by
 intro m_l7
 induction m_l7 with
 | zero => intro i5 i6; exact SimL.zero'  rfl
 | succ m_l7 ih_l7 =>
  intro i5 i6
  refine SimL.succ ?_
  unfold F81s0_l7
  refine Sim.seq (.seq (.rg [(0, .one (vw Thing.cod a0)), (1, qj a1), (2, .one (.val (.func (.func 82) #[] #[]))), (8, qj ((a0).length : Int)), (9, qj i5), (10, qj i6)] [] (.rd 3 [(17, qb (decide (i5 < i6))), (16, qj i6), (15, qj i5)] [] (.thenN (.cd _ ?_ ?_)))))
  ·refine Sim.skip (.thenN (.block (.sr 7 (rp [11, 23] (qj (iw .i64 (shrI .u64 (iw .u64 (iw .i64 (i5 + i6))) 1))) ++ [(22, .one (li .u64 (shrI .u64 (iw .u64 (iw .i64 (i5 + i6))) 1))), (21, .one (li .u64 (iw .u64 (iw .i64 (i5 + i6))))), (20, qj (iw .i64 (i5 + i6))), (19, qj i6), (18, qj i5)]) [] (.st 3 [(26, qj (iw .i64 (shrI .u64 (iw .u64 (iw .i64 (i5 + i6))) 1))), (25, .one (vw Thing.cod a0)), (24, .one (.val (.func (.func 82) #[] #[])))] [] (.bn ⟨some 27, .iaddrS 11 25 26, none, []⟩ (fun x8 => [(27, .one (.eptr (Thing.cod.enc x8) 0))]) (fun x8 => []) (fun x8 hr => pe (ei (c := Thing.cod) (k := .i64) hr)) (fun x8 => ?_))))))
   refine SimI.rn 2 [(29, qj a1), (28, .agg (Thing.cells x8))] [] (.bn ⟨some 30, .callv true [[], []] 24 [28, 29], none, []⟩ (fun r9 => [(30, qj r9)]) (fun r9 => []) (fun r9 hr => pe (eff_callvv (by kernel_rfl) (ARGS := [.agg (Thing.cells x8), qj a1]) (by kernel_rfl) (args_clean (by kernel_rfl) (args_clean (by kernel_rfl) args_nil)) (F82_ok _ _ _ _ hr) (by kernel_rfl))) (fun r9 => ?_))
   refine SimI.rd 1 [(31, qb (decide (r9 < 0)))] [] (.thenN (.cd _ ?_ ?_))
   ·refine Sim.region0 (.rd 3 (rp [9, 33] (qj (iw .i64 (iw .i64 (shrI .u64 (iw .u64 (iw .i64 (i5 + i6))) 1) + 1))) ++ [(32, qj (iw .i64 (shrI .u64 (iw .u64 (iw .i64 (i5 + i6))) 1)))]) [] (.blockN (.loopN (.pr [0, 1, 2, 8, 9, 10] [] [] [(0, .one (vw Thing.cod a0)), (1, qj a1), (2, .one (.val (.func (.func 82) #[] #[]))), (8, qj ((a0).length : Int)), (9, qj (iw .i64 (iw .i64 (shrI .u64 (iw .u64 (iw .i64 (i5 + i6))) 1) + 1))), (10, qj i6)] [] ?_))))
    exact ih_l7 (iw .i64 (iw .i64 (shrI .u64 (iw .u64 (iw .i64 (i5 + i6))) 1) + 1)) i6
   ·refine Sim.region0 (.rd 2 (rp [10, 34] (qj (iw .i64 (shrI .u64 (iw .u64 (iw .i64 (i5 + i6))) 1)))) [] (.blockN (.loopN (.pr [0, 1, 2, 8, 9, 10] [] [] [(0, .one (vw Thing.cod a0)), (1, qj a1), (2, .one (.val (.func (.func 82) #[] #[]))), (8, qj ((a0).length : Int)), (9, qj i5), (10, qj (iw .i64 (shrI .u64 (iw .u64 (iw .i64 (i5 + i6))) 1)))] [] ?_))))
    exact ih_l7 i5 (iw .i64 (shrI .u64 (iw .u64 (iw .i64 (i5 + i6))) 1))
  ·refine Sim.exit (.thenX (.loopX (.blockX (.thenN (.st 5 (rp [39, 38] (qb (decide (i5 < ((a0).length : Int)))) ++ [(37, qj ((a0).length : Int)), (36, qj i5), (35, qj i5)]) [] (.sp 39 _ ?_ ?_))))))
   ·refine SimI.rn 3 [(42, qj i5), (41, .one (vw Thing.cod a0)), (40, .one (.val (.func (.func 82) #[] #[])))] [] (.bn ⟨some 43, .iaddrS 11 41 42, some (39, true), []⟩ (fun x10 => [(43, .one (.eptr (Thing.cod.enc x10) 0))]) (fun x10 => []) (fun x10 hr => pe (ei (c := Thing.cod) (k := .i64) hr)) (fun x10 => ?_))
    refine SimI.rn 2 [(45, qj a1), (44, .agg (Thing.cells x10))] [] (.bn ⟨some 46, .callv true [[], []] 40 [44, 45], some (39, true), []⟩ (fun r11 => [(46, qj r11)]) (fun r11 => []) (fun r11 hr => pe (eff_callvv (by kernel_rfl) (ARGS := [.agg (Thing.cells x10), qj a1]) (by kernel_rfl) (args_clean (by kernel_rfl) (args_clean (by kernel_rfl) args_nil)) (F82_ok _ _ _ _ hr) (by kernel_rfl))) (fun r11 => ?_))
    exact SimI.rd 4 [(7, qb (r11 == 0)), (6, qj i5), (48, qb (r11 == 0)), (47, qb (r11 == 0))] [] (.thenN (.ret .fn))
   ·exact SimI.rd 11 ([(7, qb false), (6, qj i5), (48, qb false)] ++ rp [47, 46, 45, 44, 43, 42, 41, 40] tz) [] (.thenN (.ret .fn))
def F81s0 (n : Nat) (a0 : (List Thing)) (a1 : Int) : Option (Int × Bool) :=
 F81s0_l7 n a0 a1 (n + 8) 0 ((a0).length : Int)
theorem F81s0_ok (n : Nat) (a0 : (List Thing)) (a1 : Int) : ∀ r, F81s0 n a0 a1 = some r → D 81 [.one (vw Thing.cod a0), .one (li .i64 a1), .one (.val (.func (.func 82) #[] #[]))] [] = some ((F81s0_e a0 a1) r) := by
 refine fn_to (D := D) (n := n + 8) (nt := 49) (rs := pc81_r) (c := p81c26) (L := [(0, .one (vw Thing.cod a0)), (1, qj a1), (2, .one (.val (.func (.func 82) #[] #[])))]) (M := []) (k := 0) rfl rfl rfl rfl rfl rfl rfl ?_
 unfold F81s0
 refine Sim.sr 2 [(7, qb false), (6, qj 0)] [] (.sr 3 (rp [8, 13] (qj ((a0).length : Int)) ++ [(12, .one (vw Thing.cod a0))]) [] (.sr 3 [(10, qj ((a0).length : Int)), (9, qj 0), (14, qj ((a0).length : Int))] [] (.seq (.block (.loop (.pr [0, 1, 2, 8, 9, 10] [] [] [(0, .one (vw Thing.cod a0)), (1, qj a1), (2, .one (.val (.func (.func 82) #[] #[]))), (8, qj ((a0).length : Int)), (9, qj 0), (10, qj ((a0).length : Int))] [] ?_))))))
 exact F81s0_l7_ok n a0 a1 (n + 8) 0 ((a0).length : Int)
def F85_e : Thing → PV × List Ob := fun r => (.agg (Thing.cells r), [])
def F85_u14 (n : Nat) (g13 : Thing) : Option Thing :=
  some g13
theorem F85_u14_ok (n : Nat) (a1 : Delta) (g13 : Thing) : SimL Try.prog D (n + 8) (n + 4) p85c23 [(2, qp 2 0), (3, qp 3 0), (4, qp 4 0), (15, .agg (A4_Field.cells a1.F)), (16, qj 4)] (W33 g13 a1) (F85_u14 n g13) (QB 0 (QT Try.prog D (n + 8) p85c29 (QF false pc85_r 0 F85_e))) := by
  unfold F85_u14
  exact SimL.succ (.seq (.rg (w7 a1) (W33 g13 a1) (.rd 1 [(17, qb false)] [] (.thenN (.seq (.cf (.exit (.thenX (.loopX (.blockX (.thenN (.sr 2 [(29, .agg (Thing.cells g13))] [(4, some (.cells (Thing.cells g13)))] (.ret .fn)))))))))))))
def F85_u11 (n : Nat) (a0 : Thing) (a1 : Delta) (g10 : Thing) : Option Thing :=
  (F80 n a1.Mask 3).bind fun (r12 : Bool) =>
  if r12 then
   F85_u14 n (Thing.mk g10.ID g10.At (A4.mk g10.F.a0 g10.F.a1 g10.F.a2 a1.F.a3))
  else
   F85_u14 n g10
theorem F85_u11_ok (n : Nat) (a0 : Thing) (a1 : Delta) (g10 : Thing) : SimL Try.prog D (n + 8) (n + 5) p85c23 [(2, qp 2 0), (3, qp 3 0), (4, qp 4 0), (15, .agg (A4_Field.cells a1.F)), (16, qj 3)] (W33 g10 a1) (F85_u11 n a0 a1 g10) (QB 0 (QT Try.prog D (n + 8) p85c29 (QF false pc85_r 0 F85_e))) := by
  unfold F85_u11
  refine SimL.succ (.seq (.rg (w8 a1) (W33 g10 a1) (.rd 1 [(17, qb true)] [] (.thenN (.seq (.ct (.skip (.thenN (.seq (.block (.sr 5 [(5, qj 3), (6, qp 6 0), (19, .agg (W27 a1)), (18, qj 3)] [(6, some (.cells (W27 a1))), (6, some (.cells [lj 0, ls be]))] (.st 3 [(22, qj 3), (21, .one (li .u8 a1.Mask)), (20, qp 3 1)] [] (.cl 23 true [[], []] 80 [21, 22] none (fun r12 => qb r12) [.one (li .u8 a1.Mask), qj 3] (F80_ok _ _ _) (fun r12 => ?_))))))))))))))
  refine SimI.dn (.thenN (.cd _ ?_ ?_))
  ·refine Sim.region0 (.rd 5 [(27, qp 2 9), (26, qp 2 3), (25, .agg (W27 a1)), (24, qj 3)] [(2, some (.cells (W11 g10 a1)))] (.blockN (.thenN (.region0 (.rd 2 [(16, qj 4), (28, qj 4)] [] (.loopN (.pr [2, 3, 4, 15, 16] [2, 3, 4, 6] [] (w7 a1) [(2, some (.cells (W11 g10 a1))), (3, some (.cells (Delta.cells a1))), (4, some (.cells W0))] ?_)))))))
   exact F85_u14_ok n a1 (Thing.mk g10.ID g10.At (A4.mk g10.F.a0 g10.F.a1 g10.F.a2 a1.F.a3))
  ·refine Sim.skip (.blockN (.thenN (.region0 (.rd 2 [(16, qj 4), (28, qj 4)] [] (.loopN (.pr [2, 3, 4, 15, 16] [2, 3, 4, 6] [] (w7 a1) (W33 g10 a1) ?_))))))
   exact F85_u14_ok n a1 g10
def F85_u8 (n : Nat) (a0 : Thing) (a1 : Delta) (g7 : Thing) : Option Thing :=
  (F80 n a1.Mask 2).bind fun (r9 : Bool) =>
  if r9 then
   F85_u11 n a0 a1 (Thing.mk g7.ID g7.At (A4.mk g7.F.a0 g7.F.a1 a1.F.a2 g7.F.a3))
  else
   F85_u11 n a0 a1 g7
theorem F85_u8_ok (n : Nat) (a0 : Thing) (a1 : Delta) (g7 : Thing) : SimL Try.prog D (n + 8) (n + 6) p85c23 [(2, qp 2 0), (3, qp 3 0), (4, qp 4 0), (15, .agg (A4_Field.cells a1.F)), (16, qj 2)] (W33 g7 a1) (F85_u8 n a0 a1 g7) (QB 0 (QT Try.prog D (n + 8) p85c29 (QF false pc85_r 0 F85_e))) := by
  unfold F85_u8
  refine SimL.succ (.seq (.rg (w9 a1) (W33 g7 a1) (.rd 1 [(17, qb true)] [] (.thenN (.seq (.ct (.skip (.thenN (.seq (.block (.sr 5 [(5, qj 2), (6, qp 6 0), (19, .agg (W28 a1)), (18, qj 2)] [(6, some (.cells (W28 a1))), (6, some (.cells [lj 0, ls be]))] (.st 3 [(22, qj 2), (21, .one (li .u8 a1.Mask)), (20, qp 3 1)] [] (.cl 23 true [[], []] 80 [21, 22] none (fun r9 => qb r9) [.one (li .u8 a1.Mask), qj 2] (F80_ok _ _ _) (fun r9 => ?_))))))))))))))
  refine SimI.dn (.thenN (.cd _ ?_ ?_))
  ·refine Sim.region0 (.rd 5 [(27, qp 2 7), (26, qp 2 3), (25, .agg (W28 a1)), (24, qj 2)] [(2, some (.cells (W12 g7 a1)))] (.blockN (.thenN (.region0 (.rd 2 [(16, qj 3), (28, qj 3)] [] (.loopN (.pr [2, 3, 4, 15, 16] [2, 3, 4, 6] [] (w8 a1) [(2, some (.cells (W12 g7 a1))), (3, some (.cells (Delta.cells a1))), (4, some (.cells W0))] ?_)))))))
   exact F85_u11_ok n a0 a1 (Thing.mk g7.ID g7.At (A4.mk g7.F.a0 g7.F.a1 a1.F.a2 g7.F.a3))
  ·refine Sim.skip (.blockN (.thenN (.region0 (.rd 2 [(16, qj 3), (28, qj 3)] [] (.loopN (.pr [2, 3, 4, 15, 16] [2, 3, 4, 6] [] (w8 a1) (W33 g7 a1) ?_))))))
   exact F85_u11_ok n a0 a1 g7
def F85_u5 (n : Nat) (a0 : Thing) (a1 : Delta) (g4 : Thing) : Option Thing :=
  (F80 n a1.Mask 1).bind fun (r6 : Bool) =>
  if r6 then
   F85_u8 n a0 a1 (Thing.mk g4.ID g4.At (A4.mk g4.F.a0 a1.F.a1 g4.F.a2 g4.F.a3))
  else
   F85_u8 n a0 a1 g4
theorem F85_u5_ok (n : Nat) (a0 : Thing) (a1 : Delta) (g4 : Thing) : SimL Try.prog D (n + 8) (n + 7) p85c23 [(2, qp 2 0), (3, qp 3 0), (4, qp 4 0), (15, .agg (A4_Field.cells a1.F)), (16, qj 1)] (W33 g4 a1) (F85_u5 n a0 a1 g4) (QB 0 (QT Try.prog D (n + 8) p85c29 (QF false pc85_r 0 F85_e))) := by
  unfold F85_u5
  refine SimL.succ (.seq (.rg (w10 a1) (W33 g4 a1) (.rd 1 [(17, qb true)] [] (.thenN (.seq (.ct (.skip (.thenN (.seq (.block (.sr 5 [(5, qj 1), (6, qp 6 0), (19, .agg (W29 a1)), (18, qj 1)] [(6, some (.cells (W29 a1))), (6, some (.cells [lj 0, ls be]))] (.st 3 [(22, qj 1), (21, .one (li .u8 a1.Mask)), (20, qp 3 1)] [] (.cl 23 true [[], []] 80 [21, 22] none (fun r6 => qb r6) [.one (li .u8 a1.Mask), qj 1] (F80_ok _ _ _) (fun r6 => ?_))))))))))))))
  refine SimI.dn (.thenN (.cd _ ?_ ?_))
  ·refine Sim.region0 (.rd 5 [(27, qp 2 5), (26, qp 2 3), (25, .agg (W29 a1)), (24, qj 1)] [(2, some (.cells (W13 g4 a1)))] (.blockN (.thenN (.region0 (.rd 2 [(16, qj 2), (28, qj 2)] [] (.loopN (.pr [2, 3, 4, 15, 16] [2, 3, 4, 6] [] (w9 a1) [(2, some (.cells (W13 g4 a1))), (3, some (.cells (Delta.cells a1))), (4, some (.cells W0))] ?_)))))))
   exact F85_u8_ok n a0 a1 (Thing.mk g4.ID g4.At (A4.mk g4.F.a0 a1.F.a1 g4.F.a2 g4.F.a3))
  ·refine Sim.skip (.blockN (.thenN (.region0 (.rd 2 [(16, qj 2), (28, qj 2)] [] (.loopN (.pr [2, 3, 4, 15, 16] [2, 3, 4, 6] [] (w9 a1) (W33 g4 a1) ?_))))))
   exact F85_u8_ok n a0 a1 g4
def F85_j2 (n : Nat) (a0 : Thing) (a1 : Delta) (g1 : Thing) : Option Thing :=
  (F80 n a1.Mask 0).bind fun (r3 : Bool) =>
  if r3 then
   F85_u5 n a0 a1 (Thing.mk g1.ID g1.At (A4.mk a1.F.a0 g1.F.a1 g1.F.a2 g1.F.a3))
  else
   F85_u5 n a0 a1 g1
theorem F85_j2_ok (n : Nat) (a0 : Thing) (a1 : Delta) (g1 : Thing) : Sim Try.prog D (n + 8) p85c30 [(2, qp 2 0), (3, qp 3 0), (4, qp 4 0)] (W33 g1 a1) (F85_j2 n a0 a1 g1) (QF false pc85_r 0 F85_e) := by
  unfold F85_j2
  refine Sim.seq (.seq (.rs (.rd 3 [(16, qj 0), (15, .agg (A4_Field.cells a1.F)), (14, qp 3 4)] [] (.thenN (.block (.loop (.succ (.seq (.rg [(2, qp 2 0), (3, qp 3 0), (4, qp 4 0), (15, .agg (A4_Field.cells a1.F)), (16, qj 0)] (W33 g1 a1) (.rd 1 [(17, qb true)] [] (.thenN (.seq (.ct (.skip (.thenN (.seq (.block (.sr 5 [(5, qj 0), (6, qp 6 0), (19, .agg (W30 a1)), (18, qj 0)] [(6, some (.cells (W30 a1))), (6, some (.cells [lj 0, ls be]))] (.st 3 [(22, qj 0), (21, .one (li .u8 a1.Mask)), (20, qp 3 1)] [] (.cl 23 true [[], []] 80 [21, 22] none (fun r3 => qb r3) [.one (li .u8 a1.Mask), qj 0] (F80_ok _ _ _) (fun r3 => ?_)))))))))))))))))))))
  refine SimI.dn (.thenN (.cd _ ?_ ?_))
  ·refine Sim.region0 (.rd 5 [(27, qp 2 3), (26, qp 2 3), (25, .agg (W30 a1)), (24, qj 0)] [(2, some (.cells (W14 g1 a1)))] (.blockN (.thenN (.region0 (.rd 2 [(16, qj 1), (28, qj 1)] [] (.loopN (.pr [2, 3, 4, 15, 16] [2, 3, 4, 6] [] (w10 a1) [(2, some (.cells (W14 g1 a1))), (3, some (.cells (Delta.cells a1))), (4, some (.cells W0))] ?_)))))))
   exact F85_u5_ok n a0 a1 (Thing.mk g1.ID g1.At (A4.mk a1.F.a0 g1.F.a1 g1.F.a2 g1.F.a3))
  ·refine Sim.skip (.blockN (.thenN (.region0 (.rd 2 [(16, qj 1), (28, qj 1)] [] (.loopN (.pr [2, 3, 4, 15, 16] [2, 3, 4, 6] [] (w10 a1) (W33 g1 a1) ?_))))))
   exact F85_u5_ok n a0 a1 g1
def F85 (n : Nat) (a0 : Thing) (a1 : Delta) : Option Thing :=
 if (bitsI .and .u8 a1.Mask 1) != 0 then
  F85_j2 n a0 a1 (Thing.mk a0.ID a1.At a0.F)
 else
  F85_j2 n a0 a1 a0
theorem F85_ok (n : Nat) (a0 : Thing) (a1 : Delta) : ∀ r, F85 n a0 a1 = some r → D 85 [.agg (Thing.cells a0), .agg (Delta.cells a1)] [] = some (F85_e r) := by
 refine fn_to (D := D) (n := n + 8) (nt := 30) (rs := pc85_r) (c := p85c32) (L := [(0, .agg (Thing.cells a0)), (1, .agg (Delta.cells a1))]) (M := []) (k := 0) rfl rfl rfl rfl rfl rfl rfl ?_
 unfold F85
 refine Sim.sr 3 [(4, qp 4 0), (3, qp 3 0), (2, qp 2 0)] [(4, some (.cells W0)), (3, some (.cells (Delta.cells a1))), (2, some (.cells (Thing.cells a0)))] (.seq (.sr 4 [(10, qb ((bitsI .and .u8 a1.Mask 1) != 0)), (9, .one (li .u8 (bitsI .and .u8 a1.Mask 1))), (8, .one (li .u8 a1.Mask)), (7, qp 3 1)] [] (.cd _ ?_ ?_)))
 ·refine Sim.region0 (.rd 4 [(13, qp 2 1), (12, .agg [lj a1.At.X, lj a1.At.Y]), (11, qp 3 2)] [(2, some (.cells (W15 a0 a1)))] (.thenN (.pr [2, 3, 4] [2, 3, 4] [] [(2, qp 2 0), (3, qp 3 0), (4, qp 4 0)] [(2, some (.cells (W15 a0 a1))), (3, some (.cells (Delta.cells a1))), (4, some (.cells W0))] ?_)))
  exact F85_j2_ok n a0 a1 (Thing.mk a0.ID a1.At a0.F)
 ·refine Sim.skip (.thenN (.pr [2, 3, 4] [2, 3, 4] [] [(2, qp 2 0), (3, qp 3 0), (4, qp 4 0)] (W33 a0 a1) ?_))
  exact F85_j2_ok n a0 a1 a0
def F74_e : ((List Thing) × Bool) → PV × List Ob := fun r => (.tup [.one (vw Thing.cod r.1), .one (lb r.2)], [])
def F74 (n : Nat) (a0 : (List Thing)) (a1 : Event) : Option ((List Thing) × Bool) :=
 (F81s0 n a0 a1.ID).bind fun (r1 : (Int × Bool)) =>
 (F57 n a1).bind fun (r2 : Bool) =>
 if !(r2) then
  (cloneL a0).bind fun (l3 : (List Thing)) =>
  some (l3, false)
 else
  if r1.2 == (a1.Kind == 1) then
   (cloneL a0).bind fun (l4 : (List Thing)) =>
   some (l4, false)
  else
   (cloneL a0).bind fun (l5 : (List Thing)) =>
   if a1.Kind == 1 then
    (insL l5 r1.1 a1.Thing).bind fun (l6 : (List Thing)) =>
    some (l6, true)
   else
    if a1.Kind == 2 then
     (ix l5 r1.1).bind fun (x7 : Thing) =>
     (F85 n x7 a1.Delta).bind fun (r8 : Thing) =>
     (ix l5 r1.1).bind fun (x9 : Thing) =>
     some (((l5).set ((r1.1).toNat) r8), true)
    else
     (delL l5 r1.1 (IntKind.wrap .i64 (r1.1 + 1))).bind fun (l10 : (List Thing)) =>
     some (l10, true)
theorem F74_ok (n : Nat) (a0 : (List Thing)) (a1 : Event) : ∀ r, F74 n a0 a1 = some r → D 74 [.one (vw Thing.cod a0), .agg (Event.cells a1)] [] = some (F74_e r) := by
 refine fn_to (D := D) (n := n + 8) (nt := 58) (rs := pc74_r) (c := p74c30) (L := [(0, .one (vw Thing.cod a0)), (1, .agg (Event.cells a1))]) (M := []) (k := 0) rfl rfl rfl rfl rfl rfl rfl ?_
 unfold F74
 refine Sim.sr 3 [(5, qb false), (4, .one (lnil)), (3, qp 3 0)] [(3, some (.cells (Event.cells a1)))] (.st 3 [(12, qj a1.ID), (11, qp 3 1), (10, .one (vw Thing.cod a0))] [] (.bn ⟨some 13, .gcall false false W8 [[(0, 11)], [], []] 81 [10, 12, Operand.func 82], none, []⟩ (fun r1 => [(13, .tup [qj r1.1, qb r1.2])]) (fun r1 => []) (fun r1 hr => pe (gq (ks := []) (ARGS := [.one (vw Thing.cod a0), qj a1.ID, .one (.val (.func (.func 82) #[] #[]))]) (F81s0_ok _ _ _ _ hr))) (fun r1 => ?_)))
 refine SimI.rd 5 [(7, qb r1.2), (6, qj r1.1), (15, qb r1.2), (14, qj r1.1), (9, .tup [qj r1.1, qb r1.2])] [] (.thenN (.seq (.st 1 [(16, .agg (Event.cells a1))] [] (.cl 17 true [[]] 57 [16] none (fun r2 => qb r2) [.agg (Event.cells a1)] (F57_ok _ _) (fun r2 => ?_)))))
 refine SimI.rn 2 [(19, qb (!(r2))), (18, qb (!(r2)))] [] (.sp 19 _ ?_ ?_)
 ·refine SimI.rd 6 ([(25, qb true)] ++ rp [24, 23, 22, 21, 20] tz) [] (.thenN (.ct (.st 1 [(26, .one (vw Thing.cod a0))] [] (.bn ⟨some 27, .gcall false false W8 [[(0, 11)]] 50 [26], none, []⟩ (fun l3 => [(27, .one (.osl 300000 0 0 (l3).length))]) (fun l3 => (W21 l3)) (fun l3 hr => pe (eff_gcall (ks := []) (rks := []) (new := [300000]) (ARGS := [.one (vw Thing.cod a0)]) (args1 := [.one (vw Thing.cod a0)]) (args2 := [.one (vw Thing.cod a0)]) (os := []) (os' := [.arr 54 Thing.cod.sz 0 (l3).length (getOf Thing.cod l3)]) (os1 := [.arr 54 Thing.cod.sz 0 (l3).length (getOf Thing.cod l3)]) (res := .one (.osl 1000000 0 0 (l3).length)) (res1 := .one (.osl 1000000 0 0 (l3).length)) (r := .one (.osl 300000 0 0 (l3).length)) (N := (W21 l3)) (by kernel_rfl) (readA_ow (readA_keep (by kernel_rfl) (readA_nil))) (by kernel_rfl) (by kernel_rfl) (by kernel_rfl) (by kernel_rfl) (D_b50 (l := a0) (r := l3) hr) (by kernel_rfl) (by kernel_rfl) (by kernel_rfl) (by kernel_rfl) (by kernel_rfl) (by kernel_rfl) (by kernel_rfl))) (fun l3 => ?_)))))
  exact SimI.rd 2 [(5, qb false), (4, .one (.osl 300000 0 0 (l3).length))] [] (.thenN (.ret (.thenR (.fin (out_of (os := []) (ress_cons (resOf_own (c := Thing.cod) (k := 300000) (g := 0) (el := 54) (l := l3) (by kernel_rfl) (by kernel_rfl) (by kernel_rfl)) (ress_cons (v := qb false) (by kernel_rfl) (ress_nil))) (by kernel_rfl) rfl (by kernel_rfl))))))
 ·refine SimI.rd 6 (rp [25, 24] (qb (r1.2 == (a1.Kind == 1))) ++ [(23, qb (a1.Kind == 1)), (22, qj a1.Kind), (21, qp 3 0), (20, qb r1.2)]) [] (.thenN (.cd _ ?_ ?_))
  ·refine Sim.st 1 [(26, .one (vw Thing.cod a0))] [] (.bn ⟨some 27, .gcall false false W8 [[(0, 11)]] 50 [26], none, []⟩ (fun l4 => [(27, .one (.osl 300000 0 0 (l4).length))]) (fun l4 => (W21 l4)) (fun l4 hr => pe (eff_gcall (ks := []) (rks := []) (new := [300000]) (ARGS := [.one (vw Thing.cod a0)]) (args1 := [.one (vw Thing.cod a0)]) (args2 := [.one (vw Thing.cod a0)]) (os := []) (os' := [.arr 54 Thing.cod.sz 0 (l4).length (getOf Thing.cod l4)]) (os1 := [.arr 54 Thing.cod.sz 0 (l4).length (getOf Thing.cod l4)]) (res := .one (.osl 1000000 0 0 (l4).length)) (res1 := .one (.osl 1000000 0 0 (l4).length)) (r := .one (.osl 300000 0 0 (l4).length)) (N := (W21 l4)) (by kernel_rfl) (readA_ow (readA_keep (by kernel_rfl) (readA_nil))) (by kernel_rfl) (by kernel_rfl) (by kernel_rfl) (by kernel_rfl) (D_b50 (l := a0) (r := l4) hr) (by kernel_rfl) (by kernel_rfl) (by kernel_rfl) (by kernel_rfl) (by kernel_rfl) (by kernel_rfl) (by kernel_rfl))) (fun l4 => ?_))
   exact SimI.rd 2 [(5, qb false), (4, .one (.osl 300000 0 0 (l4).length))] [] (.thenN (.ret (.thenR (.fin (out_of (os := []) (ress_cons (resOf_own (c := Thing.cod) (k := 300000) (g := 0) (el := 54) (l := l4) (by kernel_rfl) (by kernel_rfl) (by kernel_rfl)) (ress_cons (v := qb false) (by kernel_rfl) (ress_nil))) (by kernel_rfl) rfl (by kernel_rfl))))))
  ·refine Sim.skip (.thenN (.st 1 [(28, .one (vw Thing.cod a0))] [] (.bn ⟨some 29, .gcall false false W8 [[(0, 11)]] 50 [28], none, []⟩ (fun l5 => [(29, .one (.osl 300000 0 0 (l5).length))]) (fun l5 => (W21 l5)) (fun l5 hr => pe (eff_gcall (ks := []) (rks := []) (new := [300000]) (ARGS := [.one (vw Thing.cod a0)]) (args1 := [.one (vw Thing.cod a0)]) (args2 := [.one (vw Thing.cod a0)]) (os := []) (os' := [.arr 54 Thing.cod.sz 0 (l5).length (getOf Thing.cod l5)]) (os1 := [.arr 54 Thing.cod.sz 0 (l5).length (getOf Thing.cod l5)]) (res := .one (.osl 1000000 0 0 (l5).length)) (res1 := .one (.osl 1000000 0 0 (l5).length)) (r := .one (.osl 300000 0 0 (l5).length)) (N := (W21 l5)) (by kernel_rfl) (readA_ow (readA_keep (by kernel_rfl) (readA_nil))) (by kernel_rfl) (by kernel_rfl) (by kernel_rfl) (by kernel_rfl) (D_b50 (l := a0) (r := l5) hr) (by kernel_rfl) (by kernel_rfl) (by kernel_rfl) (by kernel_rfl) (by kernel_rfl) (by kernel_rfl) (by kernel_rfl))) (fun l5 => ?_))))
   refine SimI.rd 1 [(8, .one (.osl 300000 0 0 (l5).length))] [] (.thenN (.seq (.sr 2 [(31, qj a1.Kind), (30, qp 3 0)] [] (.block (.sr 2 (rp [37, 38] (qb (a1.Kind == 1))) [] (.cd _ ?_ ?_))))))
   ·refine Sim.region0 (.rn 5 [(43, .one (.csl 43 11 0 1)), (42, .agg (Thing.cells a1.Thing)), (41, qp 3 2), (40, qj r1.1), (39, .one (.osl 300000 0 0 (l5).length))] [(43, some (.cells (Thing.cells a1.Thing)))] (.bn ⟨some 44, .gcall true false [43, 300000, 300001, 300002, 300003, 300004, 300005, 300006, 300007] [[(0, 11)], [], [(0, 11)]] 84 [39, 40, 43], none, []⟩ (fun l6 => [(44, .one (.osl 300000 (0 + 1) 0 (l6).length))]) (fun l6 => [(300000, some (.arr 54 Thing.cod.sz (0 + 1) (l6).length (getOf Thing.cod l6))), (43, some (.cells (Thing.cells a1.Thing)))]) (fun l6 hr => pe (gq (ks := [300000, 43]) (ARGS := [.one (.osl 300000 0 0 (l5).length), qj r1.1, .one (.csl 43 11 0 1)]) (D_b84 (l := l5) (i := r1.1) (a := a1.Thing) (r := l6) hr))) (fun l6 => ?_)))
    exact SimI.rd 1 [(8, .one (.osl 300000 (0 + 1) 0 (l6).length))] [] (.blockN (.thenN (.sr 3 ([(5, qb true)] ++ rp [4, 57] (.one (.osl 300000 (0 + 1) 0 (l6).length))) [] (.ret (.fin (out_of (os := []) (ress_cons (resOf_own (c := Thing.cod) (k := 300000) (g := (0 + 1)) (el := 54) (l := l6) (by kernel_rfl) (by kernel_rfl) (by kernel_rfl)) (ress_cons (v := qb true) (by kernel_rfl) (ress_nil))) (by kernel_rfl) rfl (by kernel_rfl)))))))
   ·refine Sim.sr 2 (rp [45, 46] (qb (a1.Kind == 2))) [] (.cd _ ?_ ?_)
    ·refine Sim.region0 (.rn 4 [(50, qj r1.1), (49, .one (.osl 300000 0 0 (l5).length)), (48, qj r1.1), (47, .one (.osl 300000 0 0 (l5).length))] [] (.bindh (og := ix l5 r1.1) ⟨some 51, .iaddrS 11 49 50, none, [(49, Hint.obj 300000), (50, .imm)]⟩ (fun x7 => [(51, .one (.aptr 300000 0 ((r1.1).toNat) 0))]) (fun x7 => []) (by kernel_rfl) (fun x7 hr => pe (eff_idxO (c := Thing.cod) (l := l5) (g := 0) (el := 54) (k := .i64) (n := r1.1) (by kernel_rfl) (by kernel_rfl) (by kernel_rfl) (by kernel_rfl) hr)) (fun x7 hx7 => ?_)))
     refine SimI.se ⟨some 52, .load true 11 51, none, [(51, Hint.obj 300000)]⟩ [(52, .agg (Thing.cells x7))] [] (pe (eff_loadO (c := Thing.cod) (a := x7) (l := l5) (key := 300000) (g := 0) (el := 54) (off := 0) (i := (r1.1).toNat) (by kernel_rfl) (by kernel_rfl) (ix_some hx7).2.2.2 (by kernel_rfl))) (.rn 2 [(54, .agg (Delta.cells a1.Delta)), (53, qp 3 13)] [] (.cm 55 false [[], []] 85 [52, 54] none [(52, .imm), (54, .imm)] (F85_ok _ _ _) (fun r8 => ?_)))
     refine SimI.bindh (og := ix l5 r1.1) ⟨some 56, .iaddrS 11 47 48, none, [(47, Hint.obj 300000), (48, .imm)]⟩ (fun x9 => [(56, .one (.aptr 300000 0 ((r1.1).toNat) 0))]) (fun x9 => []) (by kernel_rfl) (fun x9 hr => pe (eff_idxO (c := Thing.cod) (l := l5) (g := 0) (el := 54) (k := .i64) (n := r1.1) (by kernel_rfl) (by kernel_rfl) (by kernel_rfl) (by kernel_rfl) hr)) (fun x9 hx9 => ?_)
     exact SimI.se ⟨none, .store 11 56 55, none, [(56, Hint.obj 300000), (55, .imm)]⟩ [] [(300000, some (.arr 54 Thing.cod.sz 0 (((l5).set ((r1.1).toNat) r8)).length (getOf Thing.cod ((l5).set ((r1.1).toNat) r8))))] (pOp_eff_ (by kernel_rfl) (by kernel_rfl) (eff_storeO (c := Thing.cod) (key := 300000) (g := 0) (el := 54) (l := l5) (i := (r1.1).toNat) (b := r8) (by kernel_rfl) (by kernel_rfl) (by kernel_rfl) (ix_some hx9).2.2.1 (fun _ => rfl) rfl (by kernel_rfl))) (.slot 8 (.one (.osl 300000 0 0 (((l5).set ((r1.1).toNat) r8)).length)) (Eq.trans (b := PV.one (.osl 300000 0 0 (l5).length)) (by kernel_rfl) (congrArg (fun z => PV.one (Lf.osl 300000 0 0 z)) List.length_set.symm)) (.dn (.blockN (.thenN (.sr 3 ([(5, qb true)] ++ rp [4, 57] (.one (.osl 300000 0 0 (((l5).set ((r1.1).toNat) r8)).length))) [] (.ret (.fin (out_of (os := []) (ress_cons (resOf_own (c := Thing.cod) (k := 300000) (g := 0) (el := 54) (l := ((l5).set ((r1.1).toNat) r8)) (by kernel_rfl) (by kernel_rfl) (by kernel_rfl)) (ress_cons (v := qb true) (by kernel_rfl) (ress_nil))) (by kernel_rfl) rfl (by kernel_rfl)))))))))
    ·refine Sim.region0 (.rn 4 [(35, qj (iw .i64 (r1.1 + 1))), (34, qj r1.1), (33, qj r1.1), (32, .one (.osl 300000 0 0 (l5).length))] [] (.bn ⟨some 36, .gcall true false W8 [[(0, 11)], [], []] 86 [32, 33, 35], none, []⟩ (fun l10 => [(36, .one (.osl 300000 (0 + 1) 0 (l10).length))]) (fun l10 => [(300000, some (.arr 54 Thing.cod.sz (0 + 1) (l10).length (getOf Thing.cod l10)))]) (fun l10 hr => pe (gq (ks := [300000]) (ARGS := [.one (.osl 300000 0 0 (l5).length), qj r1.1, qj (iw .i64 (r1.1 + 1))]) (D_b86 (l := l5) (i := r1.1) (j := IntKind.wrap .i64 (r1.1 + 1)) (r := l10) hr))) (fun l10 => ?_)))
     exact SimI.rd 1 [(8, .one (.osl 300000 (0 + 1) 0 (l10).length))] [] (.blockN (.thenN (.sr 3 ([(5, qb true)] ++ rp [4, 57] (.one (.osl 300000 (0 + 1) 0 (l10).length))) [] (.ret (.fin (out_of (os := []) (ress_cons (resOf_own (c := Thing.cod) (k := 300000) (g := (0 + 1)) (el := 54) (l := l10) (by kernel_rfl) (by kernel_rfl) (by kernel_rfl)) (ress_cons (v := qb true) (by kernel_rfl) (ress_nil))) (by kernel_rfl) rfl (by kernel_rfl)))))))
def F58_e : ((List Thing) × Bool) → PV × List Ob := fun r => (.tup [.one (vw Thing.cod r.1), .one (lb r.2)], [])
def F58_j16 (n : Nat) (a0 l14 : (List Thing)) (b15 : Bool) : Option ((List Thing) × Bool) :=
  if !(b15) then
   (cloneL a0).bind fun (l17 : (List Thing)) =>
   some (l17, false)
  else
   some (l14, true)
theorem F58_j16_ok (n : Nat) (a0 l14 : (List Thing)) (b15 : Bool) : Sim Try.prog D (n + 8) p58c36 [(0, .one (vw Thing.cod a0)), (6, .one (vw Thing.cod l14)), (7, qb b15)] [] (F58_j16 n a0 l14 b15) (QF false pc58_r 0 F58_e) := by
  unfold F58_j16
  refine Sim.seq (.seq (.rs (.rd 2 [(28, qb (!(b15))), (27, qb b15)] [] (.thenN (.cd _ ?_ ?_)))))
  ·refine Sim.st 1 [(29, .one (vw Thing.cod a0))] [] (.bn ⟨some 30, .gcall false true [399990, 399991] [[(0, 11)]] 50 [29], none, []⟩ (fun l17 => [(30, .one (vw Thing.cod l17))]) (fun l17 => []) (fun l17 hr => pe (eff_gcall (ks := []) (rks := []) (new := [399990]) (ARGS := [.one (vw Thing.cod a0)]) (args1 := [.one (vw Thing.cod a0)]) (args2 := [.one (vw Thing.cod a0)]) (os := []) (os' := [.arr 54 Thing.cod.sz 0 (l17).length (getOf Thing.cod l17)]) (os1 := [.arr 54 Thing.cod.sz 0 (l17).length (getOf Thing.cod l17)]) (res := .one (.osl 1000000 0 0 (l17).length)) (res1 := .one (vw Thing.cod l17)) (r := .one (vw Thing.cod l17)) (N := []) (by kernel_rfl) (readA_ow (readA_keep (by kernel_rfl) (readA_nil))) (by kernel_rfl) (by kernel_rfl) (by kernel_rfl) (by kernel_rfl) (D_b50 (l := a0) (r := l17) hr) (by kernel_rfl) (by kernel_rfl) (by kernel_rfl) (frz_new (c := Thing.cod) 54 l17) (by kernel_rfl) (by kernel_rfl) (by kernel_rfl))) (fun l17 => ?_))
   exact SimI.rd 2 [(5, qb false), (4, .one (vw Thing.cod l17))] [] (.thenN (.ret (.thenR .fn)))
  ·exact Sim.skip (.thenN (.sr 3 ([(5, qb true)] ++ rp [4, 31] (.one (vw Thing.cod l14))) [] (.ret .fn)))
def F58_l11 (n : Nat) (a0 : (List Thing)) (a1 : (List Event)) : Nat → (List Thing) → Bool → Int → Option ((List Thing) × Bool)
 | 0, _, _, _ => none
 | m + 1, l8, b9, i10 =>
  if decide (i10 < ((a1).length : Int)) then
   (ix a1 i10).bind fun (x12 : Event) =>
   (F74 n l8 x12).bind fun (r13 : ((List Thing) × Bool)) =>
   if !(r13.2) then
    F58_j16 n a0 r13.1 r13.2
   else
    (F58_l11 n a0 a1 m) r13.1 r13.2 (IntKind.wrap .i64 (i10 + 1))
  else
   F58_j16 n a0 l8 b9
theorem F58_l11_ok (n : Nat) (a0 : (List Thing)) (a1 : (List Event)) : ∀ (m : Nat) (l8 : (List Thing)) (b9 : Bool) (i10 : Int), SimL Try.prog D (n + 8) m p58c22 [(0, .one (vw Thing.cod a0)), (6, .one (vw Thing.cod l8)), (7, qb b9), (12, .one (vw Event.cod a1)), (13, qj ((a1).length : Int)), (14, qj i10)] [] (F58_l11 n a0 a1 m l8 b9 i10) (QB 0 (QT Try.prog D (n + 8) p58c36 (QF false pc58_r 0 F58_e))) := by
 intro m_l11
 induction m_l11 with
 | zero => intro l8 b9 i10; exact SimL.zero'  rfl
 | succ m_l11 ih_l11 =>
  intro l8 b9 i10
  refine SimL.succ ?_
  unfold F58_l11
  refine Sim.seq (.rg [(0, .one (vw Thing.cod a0)), (6, .one (vw Thing.cod l8)), (7, qb b9), (12, .one (vw Event.cod a1)), (13, qj ((a1).length : Int)), (14, qj i10)] [] (.rd 1 [(15, qb (decide (i10 < ((a1).length : Int))))] [] (.thenN (.seq (.cd _ ?_ ?_)))))
  ·refine Sim.skip (.thenN (.seq (.block (.seq (.region0 (.bn ⟨some 16, .iaddrS 25 12 14, none, []⟩ (fun x12 => [(16, .one (.eptr (Event.cod.enc x12) 0))]) (fun x12 => []) (fun x12 hr => pe (ei (c := Event.cod) (k := .i64) hr)) (fun x12 => ?_)))))))
   refine SimI.rd 3 [(9, qp 9 0), (17, .agg (Event.cells x12))] [(9, some (.cells (Event.cells x12))), (9, some (.cells [lj 0, lj 0, lj 0, lj 0, lj 0, lj 0, ls be, lj 0, ls be, lj 0, ls be, lj 0, ls be, lj 0, li .u8 0, lj 0, lj 0, lj 0, ls be, lj 0, ls be, lj 0, ls be, lj 0, ls be]))] (.thenN (.st 2 [(20, .agg (Event.cells x12)), (19, .one (vw Thing.cod l8))] [] (.cl 21 true [[(0, 11)], []] 74 [19, 20] none (fun r13 => .tup (W54 r13)) [.one (vw Thing.cod l8), .agg (Event.cells x12)] (F74_ok _ _ _) (fun r13 => ?_))))
   refine SimI.rd 5 [(7, qb r13.2), (6, .one (vw Thing.cod r13.1)), (23, qb r13.2), (22, .one (vw Thing.cod r13.1)), (18, .tup (W54 r13))] [] (.thenN (.sr 2 [(25, qb (!(r13.2))), (24, qb r13.2)] [] (.cd _ ?_ ?_)))
   ·refine Sim.exit (.blockY rfl (.thenX (.loopX (.blockX (.thenN (.pr [0, 6, 7] [9] [] [(0, .one (vw Thing.cod a0)), (6, .one (vw Thing.cod r13.1)), (7, qb r13.2)] [] ?_))))))
    exact F58_j16_ok n a0 r13.1 r13.2
   ·refine Sim.skip (.blockN (.thenN (.region0 (.rd 2 (rp [14, 26] (qj (iw .i64 (i10 + 1)))) [] (.loopN (.pr [0, 6, 7, 12, 13, 14] [9] [] [(0, .one (vw Thing.cod a0)), (6, .one (vw Thing.cod r13.1)), (7, qb r13.2), (12, .one (vw Event.cod a1)), (13, qj ((a1).length : Int)), (14, qj (iw .i64 (i10 + 1)))] [] ?_))))))
    exact ih_l11 r13.1 r13.2 (iw .i64 (i10 + 1))
  ·refine Sim.exit (.thenX (.loopX (.blockX (.thenN (.pr [0, 6, 7] [9] [] [(0, .one (vw Thing.cod a0)), (6, .one (vw Thing.cod l8)), (7, qb b9)] [] ?_)))))
   exact F58_j16_ok n a0 l8 b9
def F58 (n : Nat) (a0 : (List Thing)) (a1 : (List Event)) : Option ((List Thing) × Bool) :=
 (cloneL a0).bind fun (l1 : (List Thing)) =>
 F58_l11 n a0 a1 (n + 8) l1 true 0
theorem F58_ok (n : Nat) (a0 : (List Thing)) (a1 : (List Event)) : ∀ r, F58 n a0 a1 = some r → D 58 [.one (vw Thing.cod a0), .one (vw Event.cod a1)] [] = some (F58_e r) := by
 refine fn_to (D := D) (n := n + 8) (nt := 32) (rs := pc58_r) (c := p58c41) (L := [(0, .one (vw Thing.cod a0)), (1, .one (vw Event.cod a1))]) (M := []) (k := 0) rfl rfl rfl rfl rfl rfl rfl ?_
 unfold F58
 refine Sim.sr 2 [(5, qb false), (4, .one (lnil))] [] (.scope (.st 1 [(10, .one (vw Thing.cod a0))] [] (.bn ⟨some 11, .gcall false true [399990, 399991] [[(0, 11)]] 50 [10], none, []⟩ (fun l1 => [(11, .one (vw Thing.cod l1))]) (fun l1 => []) (fun l1 hr => pe (eff_gcall (ks := []) (rks := []) (new := [399990]) (ARGS := [.one (vw Thing.cod a0)]) (args1 := [.one (vw Thing.cod a0)]) (args2 := [.one (vw Thing.cod a0)]) (os := []) (os' := [.arr 54 Thing.cod.sz 0 (l1).length (getOf Thing.cod l1)]) (os1 := [.arr 54 Thing.cod.sz 0 (l1).length (getOf Thing.cod l1)]) (res := .one (.osl 1000000 0 0 (l1).length)) (res1 := .one (vw Thing.cod l1)) (r := .one (vw Thing.cod l1)) (N := []) (by kernel_rfl) (readA_ow (readA_keep (by kernel_rfl) (readA_nil))) (by kernel_rfl) (by kernel_rfl) (by kernel_rfl) (by kernel_rfl) (D_b50 (l := a0) (r := l1) hr) (by kernel_rfl) (by kernel_rfl) (by kernel_rfl) (frz_new (c := Thing.cod) 54 l1) (by kernel_rfl) (by kernel_rfl) (by kernel_rfl))) (fun l1 => ?_))))
 refine SimI.rd 2 [(7, qb true), (6, .one (vw Thing.cod l1))] [] (.thenN (.seq (.label (.thenN (.seq (.sr 3 [(14, qj 0), (13, qj ((a1).length : Int)), (12, .one (vw Event.cod a1))] [] (.block (.loop (.pr [0, 6, 7, 12, 13, 14] [9] [] [(0, .one (vw Thing.cod a0)), (6, .one (vw Thing.cod l1)), (7, qb true), (12, .one (vw Event.cod a1)), (13, qj ((a1).length : Int)), (14, qj 0)] [] ?_)))))))))
 exact F58_l11_ok n a0 a1 (n + 8) l1 true 0
def F46_e : View → PV × List Ob := fun r => (.tup [], [.cells [li .i64 r.client, li .i64 r.session, li .i64 r.n, li .i64 r.beat, li .i64 r.start, vw Thing.cod r.things, .osl 1000001 1 0 (r.log_).length, .mp 1000002], .arr 58 Event.cod.sz 1 (r.log_).length (getOf Event.cod r.log_), .map (mapOf Key.cells Event.cod r.wait)])
def F46 (n : Nat) (a0 : View) (a1 : (List Event)) : Option View :=
 (F58 n a0.things a1).bind fun (r1 : ((List Thing) × Bool)) =>
 if !(r1.2) then
  some a0
 else
  if ((a0.log_).length + (a1).length) * 264 ≤ maxCells ∧ (a0.log_).length + (a1).length ≤ maxCells then
   some (View.mk a0.client a0.session a0.n a0.beat a0.start r1.1 (a0.log_ ++ a1) a0.wait)
  else none
theorem F46_ok (n : Nat) (a0 : View) (a1 : (List Event)) : ∀ r, F46 n a0 a1 = some r → D 46 [.one (.ptr 1000000 0), .one (vw Event.cod a1)] [.cells [li .i64 a0.client, li .i64 a0.session, li .i64 a0.n, li .i64 a0.beat, li .i64 a0.start, vw Thing.cod a0.things, .osl 1000001 0 0 (a0.log_).length, .mp 1000002], .arr 58 Event.cod.sz 0 (a0.log_).length (getOf Event.cod a0.log_), .map (mapOf Key.cells Event.cod a0.wait)] = some (F46_e r) := by
 refine fn_to (D := D) (n := n + 8) (nt := 30) (rs := pc46_r) (c := p46c11) (L := [(0, qp 1000000 0), (1, .one (vw Event.cod a1))]) (M := (W1 a0)) (k := 3) rfl rfl rfl rfl rfl rfl rfl ?_
 unfold F46
 refine Sim.st 5 [(11, .one (vw Event.cod a1)), (10, .one (vw Thing.cod a0.things)), (9, qp 1000000 5), (8, qp 1000000 0), (7, qp 1000000 0)] [] (.cl 12 true [[(0, 11)], [(0, 25)]] 58 [10, 11] none (fun r1 => .tup (W54 r1)) [.one (vw Thing.cod a0.things), .one (vw Event.cod a1)] (F58_ok _ _ _) (fun r1 => ?_))
 refine SimI.rd 5 [(5, qb r1.2), (4, .one (vw Thing.cod r1.1)), (14, qb r1.2), (13, .one (vw Thing.cod r1.1)), (6, .tup (W54 r1))] [] (.thenN (.seq (.sr 2 [(16, qb (!(r1.2))), (15, qb r1.2)] [] (.cd _ ?_ ?_))))
 ·exact Sim.ret (.thenR .fn)
 ·exact Sim.skip (.thenN (.sr 5 [(20, qp 1000000 5), (19, qp 1000000 0), (18, .one (vw Thing.cod r1.1)), (17, qp 1000000 0)] [(1000000, some (.cells [lj a0.client, lj a0.session, lj a0.n, lj a0.beat, lj a0.start, vw Thing.cod r1.1, .osl 1000001 0 0 (a0.log_).length, .mp 1000002]))] (.region0 (.rn 6 ([(26, .one (vw Event.cod a1)), (25, .one (.osl 1000001 0 0 (a0.log_).length)), (24, qp 1000000 6)] ++ rp [23, 22, 21] (qp 1000000 0)) [] (.gu ⟨some 27, .app 100025 58 25 264 25 26, none, []⟩ [(27, .one (.osl 1000001 (0 + 1) 0 ((a0.log_ ++ a1)).length))] [(1000001, some (.arr 58 Event.cod.sz (0 + 1) ((a0.log_ ++ a1)).length (getOf Event.cod (a0.log_ ++ a1))))] (fun hc => pe (eff_appOL (c := Event.cod) (g := 0) (l := a0.log_) (m := a1) (by kernel_rfl) (by kernel_rfl) (by kernel_rfl) (by kernel_rfl) hc)) (.rd 3 [(29, qp 1000000 6), (28, qp 1000000 0)] [(1000000, some (.cells [lj a0.client, lj a0.session, lj a0.n, lj a0.beat, lj a0.start, vw Thing.cod r1.1, .osl 1000001 (0 + 1) 0 ((a0.log_ ++ a1)).length, .mp 1000002]))] (.finN (by kernel_rfl))))))))
def F15_e : (Bool × View) → PV × List Ob := fun r => (.one (lb r.1), [.cells [li .i64 r.2.client, li .i64 r.2.session, li .i64 r.2.n, li .i64 r.2.beat, li .i64 r.2.start, vw Thing.cod r.2.things, .osl 1000001 1 0 (r.2.log_).length, .mp 1000002], .arr 58 Event.cod.sz 1 (r.2.log_).length (getOf Event.cod r.2.log_), .map (mapOf Key.cells Event.cod r.2.wait)])
def F15_l59 (n : Nat) (i21 i22 i23 : Int) (rec_l27 : Int → Int → Int → Int → Int → (List Thing) → (List Event) → (List (Key × (List Event))) → Option (Bool × View)) : Nat → Int → Int → Int → Int → Int → Int → (List Thing) → (List Event) → (List (Key × (List Event))) → Option (Bool × View)
 | 0, _, _, _, _, _, _, _, _, _ => none
 | m + 1, i50, i51, i52, i53, i54, i55, l56, l57, l58 =>
  if decide (i50 < i21) then
   (F46 n (View.mk i51 i52 i53 i54 i55 l56 l57 l58) (mget (Key.mk i50 (imax (IntKind.wrap .i64 (i22 + 1)) i23)) l58)).bind fun (r60 : View) =>
   (F15_l59 n i21 i22 i23 rec_l27 m) (IntKind.wrap .i64 (i50 + 1)) r60.client r60.session r60.n r60.beat r60.start r60.things r60.log_ (mcut (Key.mk i50 (imax (IntKind.wrap .i64 (i22 + 1)) i23)) r60.wait)
  else
   rec_l27 i51 i52 i53 (imax (IntKind.wrap .i64 (i22 + 1)) i23) i55 l56 l57 l58
theorem F15_l59_ok (n : Nat) (i21 i22 i23 : Int) (rec_l27 : Int → Int → Int → Int → Int → (List Thing) → (List Event) → (List (Key × (List Event))) → Option (Bool × View)) (m_l27 : Nat) (ih_l27 : ∀ (i19 i20 i21 i22 i23 : Int) (l24 : (List Thing)) (l25 : (List Event)) (l26 : (List (Key × (List Event)))), SimL Try.prog D (n + 8) m_l27 p15c57 [(0, qp 1000000 0)] (W2 i19 i20 i21 i22 i23 l24 l25 l26) (rec_l27 i19 i20 i21 i22 i23 l24 l25 l26) (QB 0 (QT Try.prog D (n + 8) p15c62 (QF false pc15_r 3 F15_e)))) : ∀ (m : Nat) (i50 i51 i52 i53 i54 i55 : Int) (l56 : (List Thing)) (l57 : (List Event)) (l58 : (List (Key × (List Event)))), SimL Try.prog D (n + 8) m p15c49 [(0, qp 1000000 0), (5, qj (imax (IntKind.wrap .i64 (i22 + 1)) i23)), (65, qj i21), (66, qj i50)] (W2 i51 i52 i53 i54 i55 l56 l57 l58) (F15_l59 n i21 i22 i23 rec_l27 m i50 i51 i52 i53 i54 i55 l56 l57 l58) (QB 4 (QT Try.prog D (n + 8) p15c53 (QB 1 (QL Try.prog D (n + 8) m_l27 p15c57 (QB 0 (QT Try.prog D (n + 8) p15c62 (QF false pc15_r 3 F15_e))))))) := by
 intro m_l59
 induction m_l59 with
 | zero => intro i50 i51 i52 i53 i54 i55 l56 l57 l58; exact SimL.zero'  rfl
 | succ m_l59 ih_l59 =>
  intro i50 i51 i52 i53 i54 i55 l56 l57 l58
  refine SimL.succ ?_
  unfold F15_l59
  refine Sim.seq (.rg [(0, qp 1000000 0), (5, qj (imax (iw .i64 (i22 + 1)) i23)), (65, qj i21), (66, qj i50)] (W2 i51 i52 i53 i54 i55 l56 l57 l58) (.rd 1 [(67, qb (decide (i50 < i21)))] [] (.thenN (.seq (.cd _ ?_ ?_)))))
  ·refine Sim.skip (.thenN (.seq (.block (.sr 2 [(9, qj i50), (68, qj i50)] [] (.st 8 ([(76, .agg [lj i50, lj (imax (iw .i64 (i22 + 1)) i23)]), (75, qj (imax (iw .i64 (i22 + 1)) i23)), (74, qj i50), (73, .one (.mp 1000002)), (72, qp 1000000 7)] ++ rp [71, 70, 69] (qp 1000000 0)) [] (.se ⟨some 77, .mlook false 97 [(0, 25)] 73 76, none, []⟩ [(77, .one (vw Event.cod (mget (Key.mk i50 (imax (iw .i64 (i22 + 1)) i23)) l58)))] [] (pe (eff_mlook (sz := 25) (c := Event.cod) Key_map (m := 1000002) (l := l58) (key := (Key.mk i50 (imax (iw .i64 (i22 + 1)) i23))) (by kernel_rfl) (by kernel_rfl) (by kernel_rfl) (by kernel_rfl) false)) (.bn ⟨some 78, .gcall false false W6 [[], [(0, 25)]] 46 [69, 77], none, []⟩ (fun r60 => [(78, tz)]) (fun r60 => [(1000000, some (.cells [lj r60.client, lj r60.session, lj r60.n, lj r60.beat, lj r60.start, vw Thing.cod r60.things, .osl 1000001 (1 + 1) 0 (r60.log_).length, .mp 1000002])), (1000001, some (.arr 58 Event.cod.sz (1 + 1) (r60.log_).length (getOf Event.cod r60.log_))), (1000002, some (.map (mapOf Key.cells Event.cod r60.wait)))]) (fun r60 hr => pe (gq (ks := W6) (ARGS := [qp 1000000 0, .one (vw Event.cod (mget (Key.mk i50 (imax (iw .i64 (i22 + 1)) i23)) l58))]) (F46_ok _ _ _ _ hr))) (fun r60 => ?_))))))))
   refine SimI.dn (.thenN (.region0 (.rn 7 [(85, .agg [lj i50, lj (imax (iw .i64 (i22 + 1)) i23)]), (84, qj (imax (iw .i64 (i22 + 1)) i23)), (83, qj i50), (82, .one (.mp 1000002)), (81, qp 1000000 7), (80, qp 1000000 0), (79, qp 1000000 0)] [] (.se ⟨none, .mdel 97 82 85, none, []⟩ [] [(1000002, some (.map (mapOf Key.cells Event.cod (mcut (Key.mk i50 (imax (iw .i64 (i22 + 1)) i23)) r60.wait))))] (pOp_eff_ (by kernel_rfl) (by kernel_rfl) (eff_mdel (c := Event.cod) Key_map (m := 1000002) (l := r60.wait) (key := (Key.mk i50 (imax (iw .i64 (i22 + 1)) i23))) (by kernel_rfl) (by kernel_rfl) (by kernel_rfl))) (.dn (.blockN (.thenN (.region0 (.rd 2 (rp [66, 86] (qj (iw .i64 (i50 + 1)))) [] (.loopN (.pr [0, 5, 65, 66] W6 [] [(0, qp 1000000 0), (5, qj (imax (iw .i64 (i22 + 1)) i23)), (65, qj i21), (66, qj (iw .i64 (i50 + 1)))] [(1000000, some (.cells (W9 r60))), (1000001, some (.arr 58 Event.cod.sz 1 (r60.log_).length (getOf Event.cod r60.log_))), (1000002, some (.map (mapOf Key.cells Event.cod (mcut (Key.mk i50 (imax (iw .i64 (i22 + 1)) i23)) r60.wait))))] ?_)))))))))))
   exact ih_l59 (iw .i64 (i50 + 1)) r60.client r60.session r60.n r60.beat r60.start r60.things r60.log_ (mcut (Key.mk i50 (imax (iw .i64 (i22 + 1)) i23)) r60.wait)
  ·refine Sim.exit (.thenX (.loopX (.blockX (.thenN (.region0 (.rd 5 [(90, qp 1000000 3), (89, qp 1000000 0), (88, qj (imax (iw .i64 (i22 + 1)) i23)), (87, qp 1000000 0)] [(1000000, some (.cells [lj i51, lj i52, lj i53, lj (imax (iw .i64 (i22 + 1)) i23), lj i55, vw Thing.cod l56, .osl 1000001 1 0 (l57).length, .mp 1000002]))] (.blockN (.loopN (.pr [0] W26 [] [(0, qp 1000000 0)] [(1000000, some (.cells [lj i51, lj i52, lj i53, lj (imax (iw .i64 (i22 + 1)) i23), lj i55, vw Thing.cod l56, .osl 1000001 1 0 (l57).length, .mp 1000002])), (1000001, some (.arr 58 Event.cod.sz 1 (l57).length (getOf Event.cod l57))), (1000002, some (.map (mapOf Key.cells Event.cod l58)))] ?_)))))))))
   exact ih_l27 i51 i52 i53 (imax (iw .i64 (i22 + 1)) i23) i55 l56 l57 l58
def F15_l31 (n : Nat) (i19 i20 i21 i22 i23 : Int) (l24 : (List Thing)) (l25 : (List Event)) (l26 : (List (Key × (List Event)))) (rec_l27 : Int → Int → Int → Int → Int → (List Thing) → (List Event) → (List (Key × (List Event))) → Option (Bool × View)) : Nat → Int → Option (Bool × View)
 | 0, _ => none
 | m + 1, i30 =>
  if decide (i30 < i21) then
   if !(mhas (Key.mk i30 (imax (IntKind.wrap .i64 (i22 + 1)) i23)) l26) then
    some (true, (View.mk i19 i20 i21 i22 i23 l24 l25 l26))
   else
    (F15_l31 n i19 i20 i21 i22 i23 l24 l25 l26 rec_l27 m) (IntKind.wrap .i64 (i30 + 1))
  else
   F15_l59 n i21 i22 i23 rec_l27 (n + 8) 0 i19 i20 i21 i22 i23 l24 l25 l26
theorem F15_l31_ok (n : Nat) (i19 i20 i21 i22 i23 : Int) (l24 : (List Thing)) (l25 : (List Event)) (l26 : (List (Key × (List Event)))) (rec_l27 : Int → Int → Int → Int → Int → (List Thing) → (List Event) → (List (Key × (List Event))) → Option (Bool × View)) (m_l27 : Nat) (ih_l27 : ∀ (i19 i20 i21 i22 i23 : Int) (l24 : (List Thing)) (l25 : (List Event)) (l26 : (List (Key × (List Event)))), SimL Try.prog D (n + 8) m_l27 p15c57 [(0, qp 1000000 0)] (W2 i19 i20 i21 i22 i23 l24 l25 l26) (rec_l27 i19 i20 i21 i22 i23 l24 l25 l26) (QB 0 (QT Try.prog D (n + 8) p15c62 (QF false pc15_r 3 F15_e)))) : ∀ (m : Nat) (i30 : Int), SimL Try.prog D (n + 8) m p15c31 [(0, qp 1000000 0), (5, qj (imax (IntKind.wrap .i64 (i22 + 1)) i23)), (44, qj i21), (45, qj i30)] (W2 i19 i20 i21 i22 i23 l24 l25 l26) (F15_l31 n i19 i20 i21 i22 i23 l24 l25 l26 rec_l27 m i30) (QB 2 (QT Try.prog D (n + 8) p15c54 (QB 1 (QL Try.prog D (n + 8) m_l27 p15c57 (QB 0 (QT Try.prog D (n + 8) p15c62 (QF false pc15_r 3 F15_e))))))) := by
 intro m_l31
 induction m_l31 with
 | zero => intro i30; exact SimL.zero'  rfl
 | succ m_l31 ih_l31 =>
  intro i30
  refine SimL.succ ?_
  unfold F15_l31
  refine Sim.seq (.rg [(0, qp 1000000 0), (5, qj (imax (iw .i64 (i22 + 1)) i23)), (44, qj i21), (45, qj i30)] (W2 i19 i20 i21 i22 i23 l24 l25 l26) (.rd 1 [(46, qb (decide (i30 < i21)))] [] (.thenN (.seq (.cd _ ?_ ?_)))))
  ·refine Sim.skip (.thenN (.seq (.block (.sr 2 [(6, qj i30), (47, qj i30)] [] (.st 7 [(55, .agg [lj i30, lj (imax (iw .i64 (i22 + 1)) i23)]), (54, qj (imax (iw .i64 (i22 + 1)) i23)), (53, qj i30), (52, .one (.mp 1000002)), (51, qp 1000000 7), (50, qp 1000000 0), (49, qp 1000000 0)] [] (.se ⟨some 56, .mlook true 97 [(0, 25)] 52 55, none, []⟩ [(56, .tup [.one (vw Event.cod (mget (Key.mk i30 (imax (iw .i64 (i22 + 1)) i23)) l26)), qb (mhas (Key.mk i30 (imax (iw .i64 (i22 + 1)) i23)) l26)])] [] (pe (eff_mlook (sz := 25) (c := Event.cod) Key_map (m := 1000002) (l := l26) (key := (Key.mk i30 (imax (iw .i64 (i22 + 1)) i23))) (by kernel_rfl) (by kernel_rfl) (by kernel_rfl) (by kernel_rfl) true)) (.rd 5 [(8, qb (mhas (Key.mk i30 (imax (iw .i64 (i22 + 1)) i23)) l26)), (7, .one (vw Event.cod (mget (Key.mk i30 (imax (iw .i64 (i22 + 1)) i23)) l26))), (58, qb (mhas (Key.mk i30 (imax (iw .i64 (i22 + 1)) i23)) l26)), (57, .one (vw Event.cod (mget (Key.mk i30 (imax (iw .i64 (i22 + 1)) i23)) l26))), (48, .tup [.one (vw Event.cod (mget (Key.mk i30 (imax (iw .i64 (i22 + 1)) i23)) l26)), qb (mhas (Key.mk i30 (imax (iw .i64 (i22 + 1)) i23)) l26)])] [] (.thenN (.sr 2 [(60, qb (!(mhas (Key.mk i30 (imax (iw .i64 (i22 + 1)) i23)) l26))), (59, qb (mhas (Key.mk i30 (imax (iw .i64 (i22 + 1)) i23)) l26))] [] (.cd _ ?_ ?_))))))))))
   ·exact Sim.exit (.blockY rfl (.thenX (.loopX (.blockY rfl (.thenX (.blockY rfl (.loopX (.blockX (.thenN (.sr 1 [(4, qb true)] [] (.ret .fn)))))))))))
   ·refine Sim.skip (.blockN (.thenN (.region0 (.rd 2 (rp [45, 61] (qj (iw .i64 (i30 + 1)))) [] (.loopN (.pr [0, 5, 44, 45] W6 [] [(0, qp 1000000 0), (5, qj (imax (iw .i64 (i22 + 1)) i23)), (44, qj i21), (45, qj (iw .i64 (i30 + 1)))] (W2 i19 i20 i21 i22 i23 l24 l25 l26) ?_))))))
    exact ih_l31 (iw .i64 (i30 + 1))
  ·refine Sim.exit (.thenX (.loopX (.blockX (.thenN (.seq (.sr 5 [(66, qj 0), (65, qj i21), (64, qp 1000000 2), (63, qp 1000000 0), (62, qp 1000000 0)] [] (.block (.loop (.pr [0, 5, 65, 66] W6 [] [(0, qp 1000000 0), (5, qj (imax (iw .i64 (i22 + 1)) i23)), (65, qj i21), (66, qj 0)] (W2 i19 i20 i21 i22 i23 l24 l25 l26) ?_)))))))))
   exact F15_l59_ok n i21 i22 i23 rec_l27 m_l27 ih_l27 (n + 8) 0 i19 i20 i21 i22 i23 l24 l25 l26
def F15_l27 (n : Nat) : Nat → Int → Int → Int → Int → Int → (List Thing) → (List Event) → (List (Key × (List Event))) → Option (Bool × View)
 | 0, _, _, _, _, _, _, _, _ => none
 | m + 1, i19, i20, i21, i22, i23, l24, l25, l26 =>
  F15_l31 n i19 i20 i21 i22 i23 l24 l25 l26 (F15_l27 n m) (n + 8) 0
theorem F15_l27_ok (n : Nat) : ∀ (m : Nat) (i19 i20 i21 i22 i23 : Int) (l24 : (List Thing)) (l25 : (List Event)) (l26 : (List (Key × (List Event)))), SimL Try.prog D (n + 8) m p15c57 [(0, qp 1000000 0)] (W2 i19 i20 i21 i22 i23 l24 l25 l26) (F15_l27 n m i19 i20 i21 i22 i23 l24 l25 l26) (QB 0 (QT Try.prog D (n + 8) p15c62 (QF false pc15_r 3 F15_e))) := by
 intro m_l27
 induction m_l27 with
 | zero => intro i19 i20 i21 i22 i23 l24 l25 l26; exact SimL.zero'  rfl
 | succ m_l27 ih_l27 =>
  intro i19 i20 i21 i22 i23 l24 l25 l26
  refine SimL.succ ?_
  unfold F15_l27
  refine Sim.block (.seq (.rg [(0, qp 1000000 0)] (W2 i19 i20 i21 i22 i23 l24 l25 l26) (.rd 11 (rp [5, 40] (qj (imax (iw .i64 (i22 + 1)) i23)) ++ [(39, qj i23), (38, qp 1000000 4), (37, qp 1000000 0), (36, qp 1000000 0), (35, qj (iw .i64 (i22 + 1))), (34, qj i22), (33, qp 1000000 3), (32, qp 1000000 0), (31, qp 1000000 0)]) [] (.thenN (.seq (.sr 5 [(45, qj 0), (44, qj i21), (43, qp 1000000 2), (42, qp 1000000 0), (41, qp 1000000 0)] [] (.block (.loop (.pr [0, 5, 44, 45] W6 [] [(0, qp 1000000 0), (5, qj (imax (iw .i64 (i22 + 1)) i23)), (44, qj i21), (45, qj 0)] (W2 i19 i20 i21 i22 i23 l24 l25 l26) ?_)))))))))
  exact F15_l31_ok n i19 i20 i21 i22 i23 l24 l25 l26 (F15_l27 n m_l27) m_l27 ih_l27 (n + 8) 0
def F15 (n : Nat) (a0 : View) (a1 : Frame) : Option (Bool × View) :=
 (F44 n a0 a1).bind fun (r1 : (Bool × View)) =>
 if !(r1.1) then
  some (false, r1.2)
 else
  (cloneL a1.Events).bind fun (l2 : (List Event)) =>
  F15_l27 n (n + 8) r1.2.client r1.2.session r1.2.n r1.2.beat a1.Start r1.2.things r1.2.log_ (mput (Key.mk a1.From a1.Beat) l2 r1.2.wait)
theorem F15_ok (n : Nat) (a0 : View) (a1 : Frame) : ∀ r, F15 n a0 a1 = some r → D 15 [.one (.ptr 1000000 0), .agg [li .i64 a1.From, li .i64 a1.Client, li .i64 a1.Session, li .i64 a1.Start, li .i64 a1.Beat, vw Event.cod a1.Events]] [.cells [li .i64 a0.client, li .i64 a0.session, li .i64 a0.n, li .i64 a0.beat, li .i64 a0.start, vw Thing.cod a0.things, .osl 1000001 0 0 (a0.log_).length, .mp 1000002], .arr 58 Event.cod.sz 0 (a0.log_).length (getOf Event.cod a0.log_), .map (mapOf Key.cells Event.cod a0.wait)] = some (F15_e r) := by
 refine fn_to (D := D) (n := n + 8) (nt := 91) (rs := pc15_r) (c := p15c69) (L := [(0, qp 1000000 0), (1, .agg (w0 a1))]) (M := (W1 a0)) (k := 3) rfl rfl rfl rfl rfl rfl rfl ?_
 unfold F15
 refine Sim.sr 2 [(4, qb false), (3, qp 3 0)] [(3, some (.cells (w0 a1)))] (.scope (.seq (.st 2 [(11, .agg (w0 a1)), (10, qp 1000000 0)] [] (.bn ⟨some 12, .gcall false false W6 [[], [(5, 25)]] 44 [10, 11], none, []⟩ (fun r1 => [(12, qb r1.1)]) (fun r1 => [(1000000, some (.cells [lj r1.2.client, lj r1.2.session, lj r1.2.n, lj r1.2.beat, lj r1.2.start, vw Thing.cod r1.2.things, .osl 1000001 (0 + 1) 0 (r1.2.log_).length, .mp 1000002])), (1000001, some (.arr 58 Event.cod.sz (0 + 1) (r1.2.log_).length (getOf Event.cod r1.2.log_))), (1000002, some (.map (mapOf Key.cells Event.cod r1.2.wait)))]) (fun r1 hr => pe (gq (ks := W6) (ARGS := [qp 1000000 0, .agg (w0 a1)]) (F44_ok _ _ _ _ hr))) (fun r1 => ?_)))))
 refine SimI.rd 1 [(13, qb (!(r1.1)))] [] (.thenN (.cd _ ?_ ?_))
 ·exact Sim.sr 1 [(4, qb false)] [] (.ret (.thenR .fn))
 ·refine Sim.skip (.thenN (.sr 6 [(18, qp 1000000 4), (17, qp 1000000 0), (16, qj a1.Start), (15, qp 3 3), (14, qp 1000000 0)] [(1000000, some (.cells [lj r1.2.client, lj r1.2.session, lj r1.2.n, lj r1.2.beat, lj a1.Start, vw Thing.cod r1.2.things, .osl 1000001 (0 + 1) 0 (r1.2.log_).length, .mp 1000002]))] (.st 11 [(29, .one (vw Event.cod a1.Events)), (28, qp 3 5), (27, .agg [lj a1.From, lj a1.Beat]), (26, qj a1.Beat), (25, qp 3 4), (24, qj a1.From), (23, qp 3 0), (22, .one (.mp 1000002)), (21, qp 1000000 7), (20, qp 1000000 0), (19, qp 1000000 0)] [] (.bn ⟨some 30, .gcall false true [399990, 399991] [[(0, 25)]] 45 [29], none, [(29, .imm)]⟩ (fun l2 => [(30, .one (vw Event.cod l2))]) (fun l2 => []) (fun l2 hr => pe (eff_gcall (ks := []) (rks := []) (new := [399990]) (ARGS := [.one (vw Event.cod a1.Events)]) (args1 := [.one (vw Event.cod a1.Events)]) (args2 := [.one (vw Event.cod a1.Events)]) (os := []) (os' := [.arr 58 Event.cod.sz 0 (l2).length (getOf Event.cod l2)]) (os1 := [.arr 58 Event.cod.sz 0 (l2).length (getOf Event.cod l2)]) (res := .one (.osl 1000000 0 0 (l2).length)) (res1 := .one (vw Event.cod l2)) (r := .one (vw Event.cod l2)) (N := []) (by kernel_rfl) (readA_ow (readA_keep (by kernel_rfl) (readA_nil))) (by kernel_rfl) (by kernel_rfl) (by kernel_rfl) (by kernel_rfl) (D_b45 (l := a1.Events) (r := l2) hr) (by kernel_rfl) (by kernel_rfl) (by kernel_rfl) (frz_new (c := Event.cod) 58 l2) (by kernel_rfl) (by kernel_rfl) (by kernel_rfl))) (fun l2 => ?_)))))
  refine SimI.se ⟨none, .mset 97 22 27 30, none, [(22, Hint.obj 1000002), (27, .imm), (30, .imm)]⟩ [] [(1000002, some (.map (mapOf Key.cells Event.cod (mput (Key.mk a1.From a1.Beat) l2 r1.2.wait))))] (pOp_eff_ (by kernel_rfl) (by kernel_rfl) (eff_mset (c := Event.cod) Key_map (m := 1000002) (l := r1.2.wait) (key := (Key.mk a1.From a1.Beat)) (y := l2) (by kernel_rfl) (by kernel_rfl) (by kernel_rfl) (by kernel_rfl))) (.dn (.thenN (.seq (.label (.thenN (.seq (.block (.loop (.pr [0] W26 [] [(0, qp 1000000 0)] [(1000000, some (.cells [lj r1.2.client, lj r1.2.session, lj r1.2.n, lj r1.2.beat, lj a1.Start, vw Thing.cod r1.2.things, .osl 1000001 1 0 (r1.2.log_).length, .mp 1000002])), (1000001, some (.arr 58 Event.cod.sz 1 (r1.2.log_).length (getOf Event.cod r1.2.log_))), (1000002, some (.map (mapOf Key.cells Event.cod (mput (Key.mk a1.From a1.Beat) l2 r1.2.wait))))] ?_)))))))))
  exact F15_l27_ok n (n + 8) r1.2.client r1.2.session r1.2.n r1.2.beat a1.Start r1.2.things r1.2.log_ (mput (Key.mk a1.From a1.Beat) l2 r1.2.wait)
def F17_e : (Int × View) → PV × List Ob := fun r => (.one (li .i64 r.1), [.cells [li .i64 r.2.client, li .i64 r.2.session, li .i64 r.2.n, li .i64 r.2.beat, li .i64 r.2.start, vw Thing.cod r.2.things, .osl 1000001 1 0 (r.2.log_).length, .mp 1000002], .arr 58 Event.cod.sz 1 (r.2.log_).length (getOf Event.cod r.2.log_), .map (mapOf Key.cells Event.cod r.2.wait)])
def F17 (n : Nat) (a0 : View) : Option (Int × View) :=
 some (a0.beat, a0)
theorem F17_ok (n : Nat) (a0 : View) : ∀ r, F17 n a0 = some r → D 17 [.one (.ptr 1000000 0)] [.cells [li .i64 a0.client, li .i64 a0.session, li .i64 a0.n, li .i64 a0.beat, li .i64 a0.start, vw Thing.cod a0.things, .osl 1000001 0 0 (a0.log_).length, .mp 1000002], .arr 58 Event.cod.sz 0 (a0.log_).length (getOf Event.cod a0.log_), .map (mapOf Key.cells Event.cod a0.wait)] = some (F17_e r) := by
 refine fn_to (D := D) (n := n + 8) (nt := 7) (rs := pc17_r) (c := p17c5) (L := [(0, qp 1000000 0)]) (M := (W1 a0)) (k := 3) rfl rfl rfl rfl rfl rfl rfl ?_
 unfold F17
 exact Sim.sr 1 [(2, qj 0)] [] (.sr 5 [(2, qj a0.beat), (6, qj a0.beat), (5, qp 1000000 3), (4, qp 1000000 0), (3, qp 1000000 0)] [] (.ret .fn))
def F18_e : (Int × View) → PV × List Ob := fun r => (.one (li .i64 r.1), [.cells [li .i64 r.2.client, li .i64 r.2.session, li .i64 r.2.n, li .i64 r.2.beat, li .i64 r.2.start, vw Thing.cod r.2.things, .osl 1000001 1 0 (r.2.log_).length, .mp 1000002], .arr 58 Event.cod.sz 1 (r.2.log_).length (getOf Event.cod r.2.log_), .map (mapOf Key.cells Event.cod r.2.wait)])
def F18 (n : Nat) (a0 : View) : Option (Int × View) :=
 some (((a0.wait).length : Int), a0)
theorem F18_ok (n : Nat) (a0 : View) : ∀ r, F18 n a0 = some r → D 18 [.one (.ptr 1000000 0)] [.cells [li .i64 a0.client, li .i64 a0.session, li .i64 a0.n, li .i64 a0.beat, li .i64 a0.start, vw Thing.cod a0.things, .osl 1000001 0 0 (a0.log_).length, .mp 1000002], .arr 58 Event.cod.sz 0 (a0.log_).length (getOf Event.cod a0.log_), .map (mapOf Key.cells Event.cod a0.wait)] = some (F18_e r) := by
 refine fn_to (D := D) (n := n + 8) (nt := 8) (rs := pc18_r) (c := p18c5) (L := [(0, qp 1000000 0)]) (M := (W1 a0)) (k := 3) rfl rfl rfl rfl rfl rfl rfl ?_
 unfold F18
 exact Sim.sr 1 [(2, qj 0)] [] (.st 4 [(6, .one (.mp 1000002)), (5, qp 1000000 7), (4, qp 1000000 0), (3, qp 1000000 0)] [] (.se ⟨some 7, .mlen 6, none, []⟩ [(7, qj ((a0.wait).length : Int))] [] (pe (eff_mlen (c := Event.cod) (ck := Key.cells) (m := 1000002) (l := a0.wait) (by kernel_rfl) (by kernel_rfl))) (.rd 1 [(2, qj ((a0.wait).length : Int))] [] (.thenN (.ret .fn)))))
def F20_e : ((List Thing) × View) → PV × List Ob := fun r => (.one (vw Thing.cod r.1), [.cells [li .i64 r.2.client, li .i64 r.2.session, li .i64 r.2.n, li .i64 r.2.beat, li .i64 r.2.start, vw Thing.cod r.2.things, .osl 1000001 1 0 (r.2.log_).length, .mp 1000002], .arr 58 Event.cod.sz 1 (r.2.log_).length (getOf Event.cod r.2.log_), .map (mapOf Key.cells Event.cod r.2.wait)])
def F20 (n : Nat) (a0 : View) : Option ((List Thing) × View) :=
 (cloneL a0.things).bind fun (l1 : (List Thing)) =>
 some (l1, a0)
theorem F20_ok (n : Nat) (a0 : View) : ∀ r, F20 n a0 = some r → D 20 [.one (.ptr 1000000 0)] [.cells [li .i64 a0.client, li .i64 a0.session, li .i64 a0.n, li .i64 a0.beat, li .i64 a0.start, vw Thing.cod a0.things, .osl 1000001 0 0 (a0.log_).length, .mp 1000002], .arr 58 Event.cod.sz 0 (a0.log_).length (getOf Event.cod a0.log_), .map (mapOf Key.cells Event.cod a0.wait)] = some (F20_e r) := by
 refine fn_to (D := D) (n := n + 8) (nt := 8) (rs := pc20_r) (c := p20c5) (L := [(0, qp 1000000 0)]) (M := (W1 a0)) (k := 3) rfl rfl rfl rfl rfl rfl rfl ?_
 unfold F20
 refine Sim.sr 1 [(2, .one (lnil))] [] (.st 4 [(6, .one (vw Thing.cod a0.things)), (5, qp 1000000 5), (4, qp 1000000 0), (3, qp 1000000 0)] [] (.bn ⟨some 7, .gcall false true [399990, 399991] [[(0, 11)]] 50 [6], none, []⟩ (fun l1 => [(7, .one (vw Thing.cod l1))]) (fun l1 => []) (fun l1 hr => pe (eff_gcall (ks := []) (rks := []) (new := [399990]) (ARGS := [.one (vw Thing.cod a0.things)]) (args1 := [.one (vw Thing.cod a0.things)]) (args2 := [.one (vw Thing.cod a0.things)]) (os := []) (os' := [.arr 54 Thing.cod.sz 0 (l1).length (getOf Thing.cod l1)]) (os1 := [.arr 54 Thing.cod.sz 0 (l1).length (getOf Thing.cod l1)]) (res := .one (.osl 1000000 0 0 (l1).length)) (res1 := .one (vw Thing.cod l1)) (r := .one (vw Thing.cod l1)) (N := []) (by kernel_rfl) (readA_ow (readA_keep (by kernel_rfl) (readA_nil))) (by kernel_rfl) (by kernel_rfl) (by kernel_rfl) (by kernel_rfl) (D_b50 (l := a0.things) (r := l1) hr) (by kernel_rfl) (by kernel_rfl) (by kernel_rfl) (frz_new (c := Thing.cod) 54 l1) (by kernel_rfl) (by kernel_rfl) (by kernel_rfl))) (fun l1 => ?_)))
 exact SimI.rd 1 [(2, .one (vw Thing.cod l1))] [] (.thenN (.ret .fn))
def F22_e : ((List Event) × View) → PV × List Ob := fun r => (.one (vw Event.cod r.1), [.cells [li .i64 r.2.client, li .i64 r.2.session, li .i64 r.2.n, li .i64 r.2.beat, li .i64 r.2.start, vw Thing.cod r.2.things, .osl 1000001 1 0 (r.2.log_).length, .mp 1000002], .arr 58 Event.cod.sz 1 (r.2.log_).length (getOf Event.cod r.2.log_), .map (mapOf Key.cells Event.cod r.2.wait)])
def F22 (n : Nat) (a0 : View) : Option ((List Event) × View) :=
 (cloneL a0.log_).bind fun (l1 : (List Event)) =>
 some (l1, a0)
theorem F22_ok (n : Nat) (a0 : View) : ∀ r, F22 n a0 = some r → D 22 [.one (.ptr 1000000 0)] [.cells [li .i64 a0.client, li .i64 a0.session, li .i64 a0.n, li .i64 a0.beat, li .i64 a0.start, vw Thing.cod a0.things, .osl 1000001 0 0 (a0.log_).length, .mp 1000002], .arr 58 Event.cod.sz 0 (a0.log_).length (getOf Event.cod a0.log_), .map (mapOf Key.cells Event.cod a0.wait)] = some (F22_e r) := by
 refine fn_to (D := D) (n := n + 8) (nt := 8) (rs := pc22_r) (c := p22c5) (L := [(0, qp 1000000 0)]) (M := (W1 a0)) (k := 3) rfl rfl rfl rfl rfl rfl rfl ?_
 unfold F22
 refine Sim.sr 1 [(2, .one (lnil))] [] (.st 4 [(6, .one (.osl 1000001 0 0 (a0.log_).length)), (5, qp 1000000 6), (4, qp 1000000 0), (3, qp 1000000 0)] [] (.bn ⟨some 7, .gcall false true [399990, 399991, 1000001] [[(0, 25)]] 45 [6], none, []⟩ (fun l1 => [(7, .one (vw Event.cod l1))]) (fun l1 => []) (fun l1 hr => pe (eff_gcall (ks := []) (rks := [1000001]) (new := [399990]) (ARGS := [.one (.osl 1000001 0 0 (a0.log_).length)]) (args1 := [.one (vw Event.cod a0.log_)]) (args2 := [.one (vw Event.cod a0.log_)]) (os := []) (os' := [.arr 58 Event.cod.sz 0 (l1).length (getOf Event.cod l1)]) (os1 := [.arr 58 Event.cod.sz 0 (l1).length (getOf Event.cod l1)]) (res := .one (.osl 1000000 0 0 (l1).length)) (res1 := .one (vw Event.cod l1)) (r := .one (vw Event.cod l1)) (N := []) (by kernel_rfl) (readA_ow (readA_own (c := Event.cod) (k := 1000001) (g := 0) (el := 58) (l := a0.log_) (by kernel_rfl) (readA_nil))) (by kernel_rfl) (by kernel_rfl) (by kernel_rfl) (by kernel_rfl) (D_b45 (l := a0.log_) (r := l1) hr) (flat_row (c := Event.cod) (fun _ => by kernel_rfl) l1) (by kernel_rfl) (by kernel_rfl) (frz_new (c := Event.cod) 58 l1) (by kernel_rfl) (by kernel_rfl) (by kernel_rfl))) (fun l1 => ?_)))
 exact SimI.rd 1 [(2, .one (vw Event.cod l1))] [] (.thenN (.ret .fn))
def F23_e : (Int × View) → PV × List Ob := fun r => (.one (li .i64 r.1), [.cells [li .i64 r.2.client, li .i64 r.2.session, li .i64 r.2.n, li .i64 r.2.beat, li .i64 r.2.start, vw Thing.cod r.2.things, .osl 1000001 1 0 (r.2.log_).length, .mp 1000002], .arr 58 Event.cod.sz 1 (r.2.log_).length (getOf Event.cod r.2.log_), .map (mapOf Key.cells Event.cod r.2.wait)])
def F23 (n : Nat) (a0 : View) : Option (Int × View) :=
 some (a0.session, a0)
theorem F23_ok (n : Nat) (a0 : View) : ∀ r, F23 n a0 = some r → D 23 [.one (.ptr 1000000 0)] [.cells [li .i64 a0.client, li .i64 a0.session, li .i64 a0.n, li .i64 a0.beat, li .i64 a0.start, vw Thing.cod a0.things, .osl 1000001 0 0 (a0.log_).length, .mp 1000002], .arr 58 Event.cod.sz 0 (a0.log_).length (getOf Event.cod a0.log_), .map (mapOf Key.cells Event.cod a0.wait)] = some (F23_e r) := by
 refine fn_to (D := D) (n := n + 8) (nt := 7) (rs := pc23_r) (c := p23c5) (L := [(0, qp 1000000 0)]) (M := (W1 a0)) (k := 3) rfl rfl rfl rfl rfl rfl rfl ?_
 unfold F23
 exact Sim.sr 1 [(2, qj 0)] [] (.sr 5 [(2, qj a0.session), (6, qj a0.session), (5, qp 1000000 1), (4, qp 1000000 0), (3, qp 1000000 0)] [] (.ret .fn))
theorem F11_ok (n : Nat) : ∀ r, (some true : Option Bool) = some r → D 11 [] [] = some (.one (lb r), []) := by
 rintro _ ⟨⟩
 exact all_of (N := 60) (by kernel_rfl)
def F54_e : Bool → PV × List Ob := fun r => (.one (lb r), [])
def F54 (n : Nat) (a0 : Field) : Option Bool :=
 some (decide ((a0.Text.size : Int) ≤ 40))
theorem F54_ok (n : Nat) (a0 : Field) : ∀ r, F54 n a0 = some r → D 54 [.agg [li .i64 a0.N, ls a0.Text]] [] = some (F54_e r) := by
 refine fn_to (D := D) (n := n + 8) (nt := 7) (rs := pc54_r) (c := p54c5) (L := [(0, .agg [lj a0.N, ls a0.Text])]) (M := []) (k := 0) rfl rfl rfl rfl rfl rfl rfl ?_
 unfold F54
 exact Sim.sr 2 W22 (W67 a0) (.sr 5 (rp [2, 6] (qb (decide ((a0.Text.size : Int) ≤ 40))) ++ [(5, qj (a0.Text.size : Int)), (4, qs a0.Text), (3, qp 1 1)]) [] (.ret .fn))
def F43_e : Bool → PV × List Ob := fun r => (.one (lb r), [])
def F43 (n : Nat) (a0 : Thing) : Option Bool :=
 (F54 n a0.F.a0).bind fun (r1 : Bool) =>
 if !(r1) then
  some false
 else
  (F54 n a0.F.a1).bind fun (r2 : Bool) =>
  if !(r2) then
   some false
  else
   (F54 n a0.F.a2).bind fun (r3 : Bool) =>
   if !(r3) then
    some false
   else
    (F54 n a0.F.a3).bind fun (r4 : Bool) =>
    if !(r4) then
     some false
    else
     some true
theorem F43_ok (n : Nat) (a0 : Thing) : ∀ r, F43 n a0 = some r → D 43 [.agg (Thing.cells a0)] [] = some (F43_e r) := by
 refine fn_to (D := D) (n := n + 8) (nt := 14) (rs := pc43_r) (c := p43c26) (L := [(0, .agg (Thing.cells a0))]) (M := []) (k := 0) rfl rfl rfl rfl rfl rfl rfl ?_
 unfold F43
 refine Sim.sr 2 W22 (W5 a0) (.seq (.sr 1 [(3, qj 0)] [] (.block (.loop (.succ (.seq (.seq (.rg [(1, qp 1 0), (3, qj 0)] (W5 a0) (.rd 2 [(5, qb true), (4, qj 0)] [] (.thenN (.ct (.skip (.thenN (.seq (.block (.st 4 [(11, .agg [lj a0.F.a0.N, ls a0.F.a0.Text]), (10, qp 1 3), (9, qp 1 3), (8, qj 0)] [] (.cl 12 true [[]] 54 [11] none (fun r1 => qb r1) [.agg [lj a0.F.a0.N, ls a0.F.a0.Text]] (F54_ok _ _) (fun r1 => ?_))))))))))))))))))
 refine SimI.rd 1 [(13, qb (!(r1)))] [] (.thenN (.cd _ ?_ ?_))
 ·exact Sim.sr 1 [(2, qb false)] [] (.ret (.blockR (.thenR (.loopR (.blockR (.thenR .fn))))))
 ·refine Sim.skip (.blockN (.thenN (.region0 (.rd 3 [(3, qj 1), (7, qj 1), (6, qj 0)] [] (.loopN (.succ (.seq (.seq (.rg [(1, qp 1 0), (3, qj 1)] (W5 a0) (.rd 2 [(5, qb true), (4, qj 1)] [] (.thenN (.ct (.skip (.thenN (.seq (.block (.st 4 [(11, .agg [lj a0.F.a1.N, ls a0.F.a1.Text]), (10, qp 1 5), (9, qp 1 3), (8, qj 1)] [] (.cl 12 true [[]] 54 [11] none (fun r2 => qb r2) [.agg [lj a0.F.a1.N, ls a0.F.a1.Text]] (F54_ok _ _) (fun r2 => ?_)))))))))))))))))))
  refine SimI.rd 1 [(13, qb (!(r2)))] [] (.thenN (.cd _ ?_ ?_))
  ·exact Sim.sr 1 [(2, qb false)] [] (.ret (.blockR (.thenR (.loopR (.blockR (.thenR .fn))))))
  ·refine Sim.skip (.blockN (.thenN (.region0 (.rd 3 [(3, qj 2), (7, qj 2), (6, qj 1)] [] (.loopN (.succ (.seq (.seq (.rg [(1, qp 1 0), (3, qj 2)] (W5 a0) (.rd 2 [(5, qb true), (4, qj 2)] [] (.thenN (.ct (.skip (.thenN (.seq (.block (.st 4 [(11, .agg [lj a0.F.a2.N, ls a0.F.a2.Text]), (10, qp 1 7), (9, qp 1 3), (8, qj 2)] [] (.cl 12 true [[]] 54 [11] none (fun r3 => qb r3) [.agg [lj a0.F.a2.N, ls a0.F.a2.Text]] (F54_ok _ _) (fun r3 => ?_)))))))))))))))))))
   refine SimI.rd 1 [(13, qb (!(r3)))] [] (.thenN (.cd _ ?_ ?_))
   ·exact Sim.sr 1 [(2, qb false)] [] (.ret (.blockR (.thenR (.loopR (.blockR (.thenR .fn))))))
   ·refine Sim.skip (.blockN (.thenN (.region0 (.rd 3 [(3, qj 3), (7, qj 3), (6, qj 2)] [] (.loopN (.succ (.seq (.seq (.rg [(1, qp 1 0), (3, qj 3)] (W5 a0) (.rd 2 [(5, qb true), (4, qj 3)] [] (.thenN (.ct (.skip (.thenN (.seq (.block (.st 4 [(11, .agg [lj a0.F.a3.N, ls a0.F.a3.Text]), (10, qp 1 9), (9, qp 1 3), (8, qj 3)] [] (.cl 12 true [[]] 54 [11] none (fun r4 => qb r4) [.agg [lj a0.F.a3.N, ls a0.F.a3.Text]] (F54_ok _ _) (fun r4 => ?_)))))))))))))))))))
    refine SimI.rd 1 [(13, qb (!(r4)))] [] (.thenN (.cd _ ?_ ?_))
    ·exact Sim.sr 1 [(2, qb false)] [] (.ret (.blockR (.thenR (.loopR (.blockR (.thenR .fn))))))
    ·exact Sim.skip (.blockN (.thenN (.region0 (.rd 3 [(3, qj 4), (7, qj 4), (6, qj 3)] [] (.loopN (.succ (.seq (.seq (.rg [(1, qp 1 0), (3, qj 4)] (W5 a0) (.rd 2 [(5, qb false), (4, qj 4)] [] (.thenN (.cf (.exit (.thenX (.loopX (.blockX (.thenN (.sr 1 [(2, qb true)] [] (.ret .fn)))))))))))))))))))
def F12_e : Bool → PV × List Ob := fun r => (.one (lb r), [])
def F12_l9 (n : Nat) (a0 : (List Frame)) (i3 : Int) (rec_l4 : Int → Option Bool) : Nat → Int → Option Bool
 | 0, _ => none
 | m + 1, ii8 =>
  (ix a0 i3).bind fun (x10 : Frame) =>
  if decide (ii8 < ((x10.Events).length : Int)) then
   (ix a0 i3).bind fun (x11 : Frame) =>
   (ix x11.Events ii8).bind fun (x12 : Event) =>
   (F43 n x12.Thing).bind fun (r13 : Bool) =>
   if !(r13) then
    some false
   else
    (ix a0 i3).bind fun (x14 : Frame) =>
    (ix x14.Events ii8).bind fun (x15 : Event) =>
    (F43 n (Thing.mk 0 (Point.mk 0 0) x15.Delta.F)).bind fun (r16 : Bool) =>
    if !(r16) then
     some false
    else
     (F12_l9 n a0 i3 rec_l4 m) (IntKind.wrap .i64 (ii8 + 1))
  else
   rec_l4 (IntKind.wrap .i64 (i3 + 1))
theorem F12_l9_ok (n : Nat) (a0 : (List Frame)) (i3 : Int) (rec_l4 : Int → Option Bool) (m_l4 : Nat) (ih_l4 : ∀ (i3 : Int), SimL Try.prog D (n + 8) m_l4 p12c39 [(0, .one (vw Frame.cod a0)), (3, qj i3)] [] (rec_l4 i3) (QB 0 (QT Try.prog D (n + 8) p12c45 (QF false pc12_r 0 F12_e)))) : ∀ (m : Nat) (ii8 : Int), SimL Try.prog D (n + 8) m p12c31 [(0, .one (vw Frame.cod a0)), (3, qj i3), (4, qj ii8)] [] (F12_l9 n a0 i3 rec_l4 m ii8) (QB 2 (QB 1 (QT Try.prog D (n + 8) p12c37 (QL Try.prog D (n + 8) m_l4 p12c39 (QB 0 (QT Try.prog D (n + 8) p12c45 (QF false pc12_r 0 F12_e))))))) := by
 intro m_l9
 induction m_l9 with
 | zero => intro ii8; exact SimL.zero'  rfl
 | succ m_l9 ih_l9 =>
  intro ii8
  refine SimL.succ ?_
  unfold F12_l9
  refine Sim.seq (.seq (.rg [(0, .one (vw Frame.cod a0)), (3, qj i3), (4, qj ii8)] [] (.rn 3 [(20, qj i3), (19, .one (vw Frame.cod a0)), (18, qj ii8)] [] (.bn ⟨some 21, .iaddrS 6 19 20, none, []⟩ (fun x10 => [(21, .one (.eptr (Frame.cod.enc x10) 0))]) (fun x10 => []) (fun x10 hr => pe (ei (c := Frame.cod) (k := .i64) hr)) (fun x10 => ?_)))))
  refine SimI.rd 4 [(25, qb (decide (ii8 < ((x10.Events).length : Int)))), (24, qj ((x10.Events).length : Int)), (23, .one (vw Event.cod x10.Events)), (22, .one (.eptr (Frame.cod.enc x10) 5))] [] (.thenN (.cd _ ?_ ?_))
  ·refine Sim.skip (.thenN (.seq (.block (.st 2 [(29, qj i3), (28, .one (vw Frame.cod a0))] [] (.bn ⟨some 30, .iaddrS 6 28 29, none, []⟩ (fun x11 => [(30, .one (.eptr (Frame.cod.enc x11) 0))]) (fun x11 => []) (fun x11 hr => pe (ei (c := Frame.cod) (k := .i64) hr)) (fun x11 => ?_))))))
   refine SimI.rn 3 [(33, qj ii8), (32, .one (vw Event.cod x11.Events)), (31, .one (.eptr (Frame.cod.enc x11) 5))] [] (.bn ⟨some 34, .iaddrS 25 32 33, none, []⟩ (fun x12 => [(34, .one (.eptr (Event.cod.enc x12) 0))]) (fun x12 => []) (fun x12 hr => pe (ei (c := Event.cod) (k := .i64) hr)) (fun x12 => ?_))
   refine SimI.rn 2 [(36, .agg (Thing.cells x12.Thing)), (35, .one (.eptr (Event.cod.enc x12) 2))] [] (.cl 37 true [[]] 43 [36] none (fun r13 => qb r13) [.agg (Thing.cells x12.Thing)] (F43_ok _ _) (fun r13 => ?_))
   refine SimI.rn 2 [(39, qb (!(r13))), (38, qb (!(r13)))] [] (.sp 39 _ ?_ ?_)
   ·exact SimI.rd 14 ([(53, qb true)] ++ rp [52, 51, 50, 49, 48, 47, 46, 45, 44, 43, 42, 41, 40] tz) [] (.thenN (.ct (.sr 1 [(2, qb false)] [] (.ret (.blockR (.thenR (.loopR (.blockR (.blockR (.thenR (.loopR (.blockR (.thenR .fn)))))))))))))
   ·refine SimI.rn 2 [(41, qj i3), (40, .one (vw Frame.cod a0))] [] (.bn ⟨some 42, .iaddrS 6 40 41, some (39, false), []⟩ (fun x14 => [(42, .one (.eptr (Frame.cod.enc x14) 0))]) (fun x14 => []) (fun x14 hr => pe (ei (c := Frame.cod) (k := .i64) hr)) (fun x14 => ?_))
    refine SimI.rn 3 [(45, qj ii8), (44, .one (vw Event.cod x14.Events)), (43, .one (.eptr (Frame.cod.enc x14) 5))] [] (.bn ⟨some 46, .iaddrS 25 44 45, some (39, false), []⟩ (fun x15 => [(46, .one (.eptr (Event.cod.enc x15) 0))]) (fun x15 => []) (fun x15 hr => pe (ei (c := Event.cod) (k := .i64) hr)) (fun x15 => ?_))
    refine SimI.rn 4 [(50, .agg (W41 x15)), (49, .agg (A4_Field.cells x15.Delta.F)), (48, .one (.eptr (Event.cod.enc x15) 17)), (47, .one (.eptr (Event.cod.enc x15) 13))] [] (.cl 51 true [[]] 43 [50] (some (39, false)) (fun r16 => qb r16) [.agg (W41 x15)] (F43_ok _ _) (fun r16 => ?_))
    refine SimI.rd 2 [(53, qb (!(r16))), (52, qb (!(r16)))] [] (.thenN (.cd _ ?_ ?_))
    ·exact Sim.sr 1 [(2, qb false)] [] (.ret (.blockR (.thenR (.loopR (.blockR (.blockR (.thenR (.loopR (.blockR (.thenR .fn))))))))))
    ·refine Sim.skip (.blockN (.thenN (.region0 (.rd 3 (rp [4, 27] (qj (iw .i64 (ii8 + 1))) ++ [(26, qj ii8)]) [] (.loopN (.pr [0, 3, 4] [] [] [(0, .one (vw Frame.cod a0)), (3, qj i3), (4, qj (iw .i64 (ii8 + 1)))] [] ?_))))))
     exact ih_l9 (iw .i64 (ii8 + 1))
  ·refine Sim.exit (.thenX (.loopX (.blockX (.blockN (.thenN (.region0 (.rd 3 (rp [3, 10] (qj (iw .i64 (i3 + 1))) ++ [(9, qj i3)]) [] (.loopN (.pr [0, 3] [] [] [(0, .one (vw Frame.cod a0)), (3, qj (iw .i64 (i3 + 1)))] [] ?_)))))))))
   exact ih_l4 (iw .i64 (i3 + 1))
def F12_l4 (n : Nat) (a0 : (List Frame)) : Nat → Int → Option Bool
 | 0, _ => none
 | m + 1, i3 =>
  if decide (i3 < ((a0).length : Int)) then
   (ix a0 i3).bind fun (x5 : Frame) =>
   if decide ((20 : Int) < ((x5.Events).length : Int)) then
    some false
   else
    F12_l9 n a0 i3 (F12_l4 n a0 m) (n + 8) 0
  else
   some (decide (((a0).length : Int) ≤ 50))
theorem F12_l4_ok (n : Nat) (a0 : (List Frame)) : ∀ (m : Nat) (i3 : Int), SimL Try.prog D (n + 8) m p12c39 [(0, .one (vw Frame.cod a0)), (3, qj i3)] [] (F12_l4 n a0 m i3) (QB 0 (QT Try.prog D (n + 8) p12c45 (QF false pc12_r 0 F12_e))) := by
 intro m_l4
 induction m_l4 with
 | zero => intro i3; exact SimL.zero'  rfl
 | succ m_l4 ih_l4 =>
  intro i3
  refine SimL.succ ?_
  unfold F12_l4
  refine Sim.seq (.seq (.rg [(0, .one (vw Frame.cod a0)), (3, qj i3)] [] (.rd 4 [(8, qb (decide (i3 < ((a0).length : Int)))), (7, qj ((a0).length : Int)), (6, .one (vw Frame.cod a0)), (5, qj i3)] [] (.thenN (.cd _ ?_ ?_)))))
  ·refine Sim.skip (.thenN (.seq (.block (.seq (.st 2 [(12, qj i3), (11, .one (vw Frame.cod a0))] [] (.bn ⟨some 13, .iaddrS 6 11 12, none, []⟩ (fun x5 => [(13, .one (.eptr (Frame.cod.enc x5) 0))]) (fun x5 => []) (fun x5 hr => pe (ei (c := Frame.cod) (k := .i64) hr)) (fun x5 => ?_)))))))
   refine SimI.rd 4 [(17, qb (decide ((20 : Int) < ((x5.Events).length : Int)))), (16, qj ((x5.Events).length : Int)), (15, .one (vw Event.cod x5.Events)), (14, .one (.eptr (Frame.cod.enc x5) 5))] [] (.thenN (.cd _ ?_ ?_))
   ·exact Sim.sr 1 [(2, qb false)] [] (.ret (.thenR (.blockR (.thenR (.loopR (.blockR (.thenR .fn)))))))
   ·refine Sim.skip (.thenN (.sr 1 [(4, qj 0)] [] (.block (.loop (.pr [0, 3, 4] [] [] [(0, .one (vw Frame.cod a0)), (3, qj i3), (4, qj 0)] [] ?_)))))
    exact F12_l9_ok n a0 i3 (F12_l4 n a0 m_l4) m_l4 ih_l4 (n + 8) 0
  ·exact Sim.exit (.thenX (.loopX (.blockX (.thenN (.sr 4 (rp [2, 56] (qb (decide (((a0).length : Int) ≤ 50))) ++ [(55, qj ((a0).length : Int)), (54, .one (vw Frame.cod a0))]) [] (.ret .fn))))))
def F12 (n : Nat) (a0 : (List Frame)) : Option Bool :=
 F12_l4 n a0 (n + 8) 0
theorem F12_ok (n : Nat) (a0 : (List Frame)) : ∀ r, F12 n a0 = some r → D 12 [.one (vw Frame.cod a0)] [] = some (F12_e r) := by
 refine fn_to (D := D) (n := n + 8) (nt := 57) (rs := pc12_r) (c := p12c47) (L := [(0, .one (vw Frame.cod a0))]) (M := []) (k := 0) rfl rfl rfl rfl rfl rfl rfl ?_
 unfold F12
 refine Sim.sr 1 [(2, qb false)] [] (.seq (.sr 1 [(3, qj 0)] [] (.block (.loop (.pr [0, 3] [] [] [(0, .one (vw Frame.cod a0)), (3, qj 0)] [] ?_)))))
 exact F12_l4_ok n a0 (n + 8) 0
def F14_e : View_vedetteref19 → PV × List Ob := fun r => (.one (.ptr 1000000 0), [.cells [li .i64 r.Client, li .i64 r.Session, li .i64 r.N, li .i64 r.Start, li .i64 r.Beat, vw Thing.cod r.L, .osl 1000001 0 0 (r.Log).length, .osl 1000002 0 0 (r.Wait).length], .arr 58 Event.cod.sz 0 (r.Log).length (getOf Event.cod r.Log), .arr 32 Frame.cod.sz 0 (r.Wait).length (getOf Frame.cod r.Wait)])
def F14 (n : Nat) (a0 a1 a2 : Int) : Option View_vedetteref19 :=
 some (View_vedetteref19.mk a0 a1 (imax 1 (imin a2 4)) (-1) (-1) ([] : List Thing) ([] : List Event) ([] : List Frame))
theorem F14_ok (n : Nat) (a0 a1 a2 : Int) : ∀ r, F14 n a0 a1 a2 = some r → D 14 [.one (li .i64 a0), .one (li .i64 a1), .one (li .i64 a2)] [] = some (F14_e r) := by
 refine fn_to (D := D) (n := n + 8) (nt := 14) (rs := pc14_r) (c := p14c5) (L := [(0, qj a0), (1, qj a1), (2, qj a2)]) (M := []) (k := 0) rfl rfl rfl rfl rfl rfl rfl ?_
 unfold F14
 exact Sim.sr 1 [(6, .one (.val (.pointer none)))] [] (.sr 8 [(6, qp 13 0), (13, qp 13 0), (12, .agg [lj a0, lj a1, lj (imax 1 (imin a2 4)), lj (-1), lj (-1), lnil, lnil, lnil]), (11, qj (imax 1 (imin a2 4))), (10, qj (imin a2 4)), (9, qj a2), (8, qj a1), (7, qj a0)] [(13, some (.cells [lj a0, lj a1, lj (imax 1 (imin a2 4)), lj (-1), lj (-1), vw Thing.cod ([] : List Thing), .osl 400105 0 0 (([] : List Event)).length, .osl 400106 0 0 (([] : List Frame)).length])), (400105, some (.arr 58 Event.cod.sz 0 (([] : List Event)).length (getOf Event.cod ([] : List Event)))), (400106, some (.arr 32 Frame.cod.sz 0 (([] : List Frame)).length (getOf Frame.cod ([] : List Frame))))] (.ret .fn))
def F47_e : (Int × View_vedetteref19) → PV × List Ob := fun r => (.one (li .i64 r.1), [.cells [li .i64 r.2.Client, li .i64 r.2.Session, li .i64 r.2.N, li .i64 r.2.Start, li .i64 r.2.Beat, vw Thing.cod r.2.L, .osl 1000001 1 0 (r.2.Log).length, .osl 1000002 1 0 (r.2.Wait).length], .arr 58 Event.cod.sz 1 (r.2.Log).length (getOf Event.cod r.2.Log), .arr 32 Frame.cod.sz 1 (r.2.Wait).length (getOf Frame.cod r.2.Wait)])
def F47_l4 (n : Nat) (a0 : View_vedetteref19) (a1 a2 : Int) : Nat → Int → Option (Int × View_vedetteref19)
 | 0, _ => none
 | m + 1, i3 =>
  if decide (i3 < ((a0.Wait).length : Int)) then
   (ix a0.Wait i3).bind fun (x5 : Frame) =>
   if x5.From == a1 then
    (ix a0.Wait i3).bind fun (x6 : Frame) =>
    if x6.Beat == a2 then
     some (i3, a0)
    else
     (F47_l4 n a0 a1 a2 m) (IntKind.wrap .i64 (i3 + 1))
   else
    (F47_l4 n a0 a1 a2 m) (IntKind.wrap .i64 (i3 + 1))
  else
   some ((-1), a0)
theorem F47_l4_ok (n : Nat) (a0 : View_vedetteref19) (a1 a2 : Int) : ∀ (m : Nat) (i3 : Int), SimL Try.prog D (n + 8) m p47c18 [(0, qp 1000000 0), (1, qj a1), (2, qj a2), (7, qj i3)] (W20 a0) (F47_l4 n a0 a1 a2 m i3) (QB 0 (QT Try.prog D (n + 8) p47c24 (QF false pc47_r 3 F47_e))) := by
 intro m_l4
 induction m_l4 with
 | zero => intro i3; exact SimL.zero'  rfl
 | succ m_l4 ih_l4 =>
  intro i3
  refine SimL.succ ?_
  unfold F47_l4
  refine Sim.seq (.seq (.rg [(0, qp 1000000 0), (1, qj a1), (2, qj a2), (7, qj i3)] [(1000000, some (.cells (w1 a0))), (1000001, some (.arr 58 Event.cod.sz 1 (a0.Log).length (getOf Event.cod a0.Log))), (1000002, some (.arr 32 Frame.cod.sz 1 (a0.Wait).length (getOf Frame.cod a0.Wait)))] (.rd 7 [(14, qb (decide (i3 < ((a0.Wait).length : Int)))), (13, qj ((a0.Wait).length : Int)), (12, .one (.osl 1000002 1 0 (a0.Wait).length)), (11, qp 1000000 7), (10, qp 1000000 0), (9, qp 1000000 0), (8, qj i3)] [] (.thenN (.cd _ ?_ ?_)))))
  ·refine Sim.skip (.thenN (.seq (.block (.st 5 [(21, qj i3), (20, .one (.osl 1000002 1 0 (a0.Wait).length)), (19, qp 1000000 7), (18, qp 1000000 0), (17, qp 1000000 0)] [] (.bindh (og := ix a0.Wait i3) ⟨some 22, .iaddrS 6 20 21, none, []⟩ (fun x5 => [(22, .one (.aptr 1000002 1 ((i3).toNat) 0))]) (fun x5 => []) (by kernel_rfl) (fun x5 hr => pe (eff_idxO (c := Frame.cod) (l := a0.Wait) (g := 1) (el := 32) (k := .i64) (n := i3) (by kernel_rfl) (by kernel_rfl) (by kernel_rfl) (by kernel_rfl) hr)) (fun x5 hx5 => ?_))))))
   refine SimI.rn 1 [(23, .one (.aptr 1000002 1 ((i3).toNat) 0))] [] (.se ⟨some 24, .load false 1 23, none, []⟩ [(24, qj x5.From)] [] (pe (eff_loadO (c := Frame.cod) (a := x5) (l := a0.Wait) (key := 1000002) (g := 1) (el := 32) (off := 0) (i := (i3).toNat) (by kernel_rfl) (by kernel_rfl) (ix_some hx5).2.2.2 (by kernel_rfl))) (.rn 3 (rp [27, 26] (qb (x5.From == a1)) ++ [(25, qj a1)]) [] (.sp 27 _ ?_ ?_)))
   ·refine SimI.rn 5 [(32, qj i3), (31, .one (.osl 1000002 1 0 (a0.Wait).length)), (30, qp 1000000 7), (29, qp 1000000 0), (28, qp 1000000 0)] [] (.bindh (og := ix a0.Wait i3) ⟨some 33, .iaddrS 6 31 32, some (27, true), []⟩ (fun x6 => [(33, .one (.aptr 1000002 1 ((i3).toNat) 0))]) (fun x6 => []) (by kernel_rfl) (fun x6 hr => pe (eff_idxO (c := Frame.cod) (l := a0.Wait) (g := 1) (el := 32) (k := .i64) (n := i3) (by kernel_rfl) (by kernel_rfl) (by kernel_rfl) (by kernel_rfl) hr)) (fun x6 hx6 => ?_))
    refine SimI.rn 1 [(34, .one (.aptr 1000002 1 ((i3).toNat) 4))] [] (.se ⟨some 35, .load false 1 34, some (27, true), []⟩ [(35, qj x6.Beat)] [] (pe (eff_loadO (c := Frame.cod) (a := x6) (l := a0.Wait) (key := 1000002) (g := 1) (el := 32) (off := 4) (i := (i3).toNat) (by kernel_rfl) (by kernel_rfl) (ix_some hx6).2.2.2 (by kernel_rfl))) (.rd 3 (rp [38, 37] (qb (x6.Beat == a2)) ++ [(36, qj a2)]) [] (.thenN (.cd _ ?_ ?_))))
    ·exact Sim.sr 2 [(6, qj i3), (39, qj i3)] [] (.ret (.blockR (.thenR (.loopR (.blockR (.thenR .fn))))))
    ·refine Sim.skip (.blockN (.thenN (.region0 (.rd 3 (rp [7, 16] (qj (iw .i64 (i3 + 1))) ++ [(15, qj i3)]) [] (.loopN (.pr [0, 1, 2, 7] W6 [] [(0, qp 1000000 0), (1, qj a1), (2, qj a2), (7, qj (iw .i64 (i3 + 1)))] [(1000000, some (.cells (w1 a0))), (1000001, some (.arr 58 Event.cod.sz 1 (a0.Log).length (getOf Event.cod a0.Log))), (1000002, some (.arr 32 Frame.cod.sz 1 (a0.Wait).length (getOf Frame.cod a0.Wait)))] ?_))))))
     exact ih_l4 (iw .i64 (i3 + 1))
   ·refine SimI.rd 11 ([(38, qb false)] ++ rp [37, 36, 35, 34, 33, 32, 31, 30, 29, 28] tz) [] (.thenN (.cf (.skip (.blockN (.thenN (.region0 (.rd 3 (rp [7, 16] (qj (iw .i64 (i3 + 1))) ++ [(15, qj i3)]) [] (.loopN (.pr [0, 1, 2, 7] W6 [] [(0, qp 1000000 0), (1, qj a1), (2, qj a2), (7, qj (iw .i64 (i3 + 1)))] [(1000000, some (.cells (w1 a0))), (1000001, some (.arr 58 Event.cod.sz 1 (a0.Log).length (getOf Event.cod a0.Log))), (1000002, some (.arr 32 Frame.cod.sz 1 (a0.Wait).length (getOf Frame.cod a0.Wait)))] ?_)))))))))
    exact ih_l4 (iw .i64 (i3 + 1))
  ·exact Sim.exit (.thenX (.loopX (.blockX (.thenN (.sr 1 [(6, qj (-1))] [] (.ret .fn))))))
def F47 (n : Nat) (a0 : View_vedetteref19) (a1 a2 : Int) : Option (Int × View_vedetteref19) :=
 F47_l4 n a0 a1 a2 (n + 8) 0
theorem F47_ok (n : Nat) (a0 : View_vedetteref19) (a1 a2 : Int) : ∀ r, F47 n a0 a1 a2 = some r → D 47 [.one (.ptr 1000000 0), .one (li .i64 a1), .one (li .i64 a2)] [.cells [li .i64 a0.Client, li .i64 a0.Session, li .i64 a0.N, li .i64 a0.Start, li .i64 a0.Beat, vw Thing.cod a0.L, .osl 1000001 0 0 (a0.Log).length, .osl 1000002 0 0 (a0.Wait).length], .arr 58 Event.cod.sz 0 (a0.Log).length (getOf Event.cod a0.Log), .arr 32 Frame.cod.sz 0 (a0.Wait).length (getOf Frame.cod a0.Wait)] = some (F47_e r) := by
 refine fn_to (D := D) (n := n + 8) (nt := 40) (rs := pc47_r) (c := p47c26) (L := [(0, qp 1000000 0), (1, qj a1), (2, qj a2)]) (M := [(1000000, some (.cells (w2 a0))), (1000001, some (.arr 58 Event.cod.sz 0 (a0.Log).length (getOf Event.cod a0.Log))), (1000002, some (.arr 32 Frame.cod.sz 0 (a0.Wait).length (getOf Frame.cod a0.Wait)))]) (k := 3) rfl rfl rfl rfl rfl rfl rfl ?_
 unfold F47
 refine Sim.sr 1 [(6, qj 0)] [] (.seq (.sr 1 [(7, qj 0)] [] (.block (.loop (.pr [0, 1, 2, 7] W6 [] [(0, qp 1000000 0), (1, qj a1), (2, qj a2), (7, qj 0)] [(1000000, some (.cells (w1 a0))), (1000001, some (.arr 58 Event.cod.sz 1 (a0.Log).length (getOf Event.cod a0.Log))), (1000002, some (.arr 32 Frame.cod.sz 1 (a0.Wait).length (getOf Frame.cod a0.Wait)))] ?_)))))
 exact F47_l4_ok n a0 a1 a2 (n + 8) 0
def F70_e : Bool → PV × List Ob := fun r => (.one (lb r), [])
def F70 (n : Nat) (a0 : Field) : Option Bool :=
 if a0.N == 0 then
  some (decide ((a0.Text.size : Int) ≤ 12))
 else
  if a0.Text.toList == ByteArray.empty.toList then
   some (decide ((a0.Text.size : Int) ≤ 12))
  else
   some false
theorem F70_ok (n : Nat) (a0 : Field) : ∀ r, F70 n a0 = some r → D 70 [.agg [li .i64 a0.N, ls a0.Text]] [] = some (F70_e r) := by
 refine fn_to (D := D) (n := n + 8) (nt := 17) (rs := pc70_r) (c := p70c5) (L := [(0, .agg [lj a0.N, ls a0.Text])]) (M := []) (k := 0) rfl rfl rfl rfl rfl rfl rfl ?_
 unfold F70
 refine Sim.sr 2 W22 (W67 a0) (.st 4 [(6, qb (a0.N == 0)), (5, qb (a0.N == 0)), (4, qj a0.N), (3, qp 1 0)] [] (.sp 6 _ ?_ ?_))
 ·exact SimI.rd 11 (rp [2, 16, 15] (qb (decide ((a0.Text.size : Int) ≤ 12))) ++ (W61 a0)) [] (.thenN (.ret .fn))
 ·refine SimI.rn 5 (w16 a0) [] (.sp 11 _ ?_ ?_)
  ·exact SimI.rd 6 (w17 a0) [] (.thenN (.ret .fn))
  ·exact SimI.rd 6 [(2, qb false), (16, qb false), (15, tz), (14, tz), (13, tz), (12, tz)] [] (.thenN (.ret .fn))
def F75_e : Bool → PV × List Ob := fun r => (.one (lb r), [])
def F75 (n : Nat) (a0 : Point) : Option Bool :=
 if decide ((0 : Int) ≤ a0.X) then
  if decide (a0.X < 64) then
   if decide ((0 : Int) ≤ a0.Y) then
    some (decide (a0.Y < 64))
   else
    some false
  else
   some false
 else
  some false
theorem F75_ok (n : Nat) (a0 : Point) : ∀ r, F75 n a0 = some r → D 75 [.agg [li .i64 a0.X, li .i64 a0.Y]] [] = some (F75_e r) := by
 refine fn_to (D := D) (n := n + 8) (nt := 21) (rs := pc75_r) (c := p75c5) (L := [(0, .agg [lj a0.X, lj a0.Y])]) (M := []) (k := 0) rfl rfl rfl rfl rfl rfl rfl ?_
 unfold F75
 refine Sim.sr 2 W22 [(1, some (.cells [lj a0.X, lj a0.Y]))] (.st 4 (w12 a0) [] (.sp 6 _ ?_ ?_))
 ·refine SimI.rn 5 (w13 a0) [] (.sp 11 _ ?_ ?_)
  ·refine SimI.rn 5 (w14 a0) [] (.sp 16 _ ?_ ?_)
   ·exact SimI.rd 5 (w15 a0) [] (.thenN (.ret .fn))
   ·exact SimI.rd 5 [(2, qb false), (20, qb false), (19, tz), (18, tz), (17, tz)] [] (.thenN (.ret .fn))
  ·exact SimI.rd 10 W57 [] (.thenN (.ret .fn))
 ·exact SimI.rd 15 W40 [] (.thenN (.ret .fn))
def F59_e : Bool → PV × List Ob := fun r => (.one (lb r), [])
def F59_u15 (n : Nat) (b14 : Bool) : Option Bool :=
  some b14
theorem F59_u15_ok (n : Nat) (a0 : Thing) (b14 : Bool) : SimL Try.prog D (n + 8) (n + 4) p59c13 [(1, qp 1 0), (3, qb b14), (4, qj 4)] (W5 a0) (F59_u15 n b14) (QB 0 (QT Try.prog D (n + 8) p59c19 (QF false pc59_r 0 F59_e))) := by
  unfold F59_u15
  exact SimL.succ (.seq (.seq (.rg [(1, qp 1 0), (3, qb b14), (4, qj 4)] (W5 a0) (.rd 2 [(19, qb false), (18, qj 4)] [] (.thenN (.cf (.exit (.thenX (.loopX (.blockX (.thenN (.sr 2 [(2, qb b14), (30, qb b14)] [] (.ret .fn)))))))))))))
def F59_u12 (n : Nat) (a0 : Thing) (b11 : Bool) : Option Bool :=
  if b11 then
   (F70 n a0.F.a3).bind fun (r13 : Bool) =>
   F59_u15 n r13
  else
   F59_u15 n false
theorem F59_u12_ok (n : Nat) (a0 : Thing) (b11 : Bool) : SimL Try.prog D (n + 8) (n + 5) p59c13 [(1, qp 1 0), (3, qb b11), (4, qj 3)] (W5 a0) (F59_u12 n a0 b11) (QB 0 (QT Try.prog D (n + 8) p59c19 (QF false pc59_r 0 F59_e))) := by
  unfold F59_u12
  refine SimL.succ (.seq (.seq (.rg [(1, qp 1 0), (3, qb b11), (4, qj 3)] (W5 a0) (.rd 2 [(19, qb true), (18, qj 3)] [] (.thenN (.ct (.skip (.thenN (.seq (.block (.region0 (.rn 2 [(23, qb b11), (22, qb b11)] [] (.sp 23 _ ?_ ?_)))))))))))))
  ·refine SimI.rn 4 [(27, .agg [lj a0.F.a3.N, ls a0.F.a3.Text]), (26, qp 1 9), (25, qp 1 3), (24, qj 3)] [] (.cl 28 true [[]] 70 [27] (some (23, true)) (fun r13 => qb r13) [.agg [lj a0.F.a3.N, ls a0.F.a3.Text]] (F70_ok _ _) (fun r13 => ?_))
   refine SimI.rd 2 [(3, qb r13), (29, qb r13)] [] (.blockN (.thenN (.region0 (.rd 3 [(4, qj 4), (21, qj 4), (20, qj 3)] [] (.loopN (.pr [1, 3, 4] [1] [] [(1, qp 1 0), (3, qb r13), (4, qj 4)] (W5 a0) ?_))))))
   exact F59_u15_ok n a0 r13
  ·refine SimI.rd 7 (W66 ++ rp [28, 27, 26, 25, 24] tz) [] (.blockN (.thenN (.region0 (.rd 3 [(4, qj 4), (21, qj 4), (20, qj 3)] [] (.loopN (.pr [1, 3, 4] [1] [] [(1, qp 1 0), (3, qb false), (4, qj 4)] (W5 a0) ?_))))))
   exact F59_u15_ok n a0 false
def F59_u9 (n : Nat) (a0 : Thing) (b8 : Bool) : Option Bool :=
  if b8 then
   (F70 n a0.F.a2).bind fun (r10 : Bool) =>
   F59_u12 n a0 r10
  else
   F59_u12 n a0 false
theorem F59_u9_ok (n : Nat) (a0 : Thing) (b8 : Bool) : SimL Try.prog D (n + 8) (n + 6) p59c13 [(1, qp 1 0), (3, qb b8), (4, qj 2)] (W5 a0) (F59_u9 n a0 b8) (QB 0 (QT Try.prog D (n + 8) p59c19 (QF false pc59_r 0 F59_e))) := by
  unfold F59_u9
  refine SimL.succ (.seq (.seq (.rg [(1, qp 1 0), (3, qb b8), (4, qj 2)] (W5 a0) (.rd 2 [(19, qb true), (18, qj 2)] [] (.thenN (.ct (.skip (.thenN (.seq (.block (.region0 (.rn 2 [(23, qb b8), (22, qb b8)] [] (.sp 23 _ ?_ ?_)))))))))))))
  ·refine SimI.rn 4 [(27, .agg [lj a0.F.a2.N, ls a0.F.a2.Text]), (26, qp 1 7), (25, qp 1 3), (24, qj 2)] [] (.cl 28 true [[]] 70 [27] (some (23, true)) (fun r10 => qb r10) [.agg [lj a0.F.a2.N, ls a0.F.a2.Text]] (F70_ok _ _) (fun r10 => ?_))
   refine SimI.rd 2 [(3, qb r10), (29, qb r10)] [] (.blockN (.thenN (.region0 (.rd 3 [(4, qj 3), (21, qj 3), (20, qj 2)] [] (.loopN (.pr [1, 3, 4] [1] [] [(1, qp 1 0), (3, qb r10), (4, qj 3)] (W5 a0) ?_))))))
   exact F59_u12_ok n a0 r10
  ·refine SimI.rd 7 (W66 ++ rp [28, 27, 26, 25, 24] tz) [] (.blockN (.thenN (.region0 (.rd 3 [(4, qj 3), (21, qj 3), (20, qj 2)] [] (.loopN (.pr [1, 3, 4] [1] [] [(1, qp 1 0), (3, qb false), (4, qj 3)] (W5 a0) ?_))))))
   exact F59_u12_ok n a0 false
def F59_u6 (n : Nat) (a0 : Thing) (b5 : Bool) : Option Bool :=
  if b5 then
   (F70 n a0.F.a1).bind fun (r7 : Bool) =>
   F59_u9 n a0 r7
  else
   F59_u9 n a0 false
theorem F59_u6_ok (n : Nat) (a0 : Thing) (b5 : Bool) : SimL Try.prog D (n + 8) (n + 7) p59c13 [(1, qp 1 0), (3, qb b5), (4, qj 1)] (W5 a0) (F59_u6 n a0 b5) (QB 0 (QT Try.prog D (n + 8) p59c19 (QF false pc59_r 0 F59_e))) := by
  unfold F59_u6
  refine SimL.succ (.seq (.seq (.rg [(1, qp 1 0), (3, qb b5), (4, qj 1)] (W5 a0) (.rd 2 [(19, qb true), (18, qj 1)] [] (.thenN (.ct (.skip (.thenN (.seq (.block (.region0 (.rn 2 [(23, qb b5), (22, qb b5)] [] (.sp 23 _ ?_ ?_)))))))))))))
  ·refine SimI.rn 4 [(27, .agg [lj a0.F.a1.N, ls a0.F.a1.Text]), (26, qp 1 5), (25, qp 1 3), (24, qj 1)] [] (.cl 28 true [[]] 70 [27] (some (23, true)) (fun r7 => qb r7) [.agg [lj a0.F.a1.N, ls a0.F.a1.Text]] (F70_ok _ _) (fun r7 => ?_))
   refine SimI.rd 2 [(3, qb r7), (29, qb r7)] [] (.blockN (.thenN (.region0 (.rd 3 [(4, qj 2), (21, qj 2), (20, qj 1)] [] (.loopN (.pr [1, 3, 4] [1] [] [(1, qp 1 0), (3, qb r7), (4, qj 2)] (W5 a0) ?_))))))
   exact F59_u9_ok n a0 r7
  ·refine SimI.rd 7 (W66 ++ rp [28, 27, 26, 25, 24] tz) [] (.blockN (.thenN (.region0 (.rd 3 [(4, qj 2), (21, qj 2), (20, qj 1)] [] (.loopN (.pr [1, 3, 4] [1] [] [(1, qp 1 0), (3, qb false), (4, qj 2)] (W5 a0) ?_))))))
   exact F59_u9_ok n a0 false
def F59_j3 (n : Nat) (a0 : Thing) (b2 : Bool) : Option Bool :=
  if b2 then
   (F70 n a0.F.a0).bind fun (r4 : Bool) =>
   F59_u6 n a0 r4
  else
   F59_u6 n a0 false
theorem F59_j3_ok (n : Nat) (a0 : Thing) (b2 : Bool) : Sim Try.prog D (n + 8) p59c20 [(1, qp 1 0), (3, qb b2)] (W5 a0) (F59_j3 n a0 b2) (QF false pc59_r 0 F59_e) := by
  unfold F59_j3
  refine Sim.seq (.seq (.rs (.rd 1 [(4, qj 0)] [] (.thenN (.block (.loop (.succ (.seq (.seq (.rg [(1, qp 1 0), (3, qb b2), (4, qj 0)] (W5 a0) (.rd 2 [(19, qb true), (18, qj 0)] [] (.thenN (.ct (.skip (.thenN (.seq (.block (.region0 (.rn 2 [(23, qb b2), (22, qb b2)] [] (.sp 23 _ ?_ ?_))))))))))))))))))))
  ·refine SimI.rn 4 [(27, .agg [lj a0.F.a0.N, ls a0.F.a0.Text]), (26, qp 1 3), (25, qp 1 3), (24, qj 0)] [] (.cl 28 true [[]] 70 [27] (some (23, true)) (fun r4 => qb r4) [.agg [lj a0.F.a0.N, ls a0.F.a0.Text]] (F70_ok _ _) (fun r4 => ?_))
   refine SimI.rd 2 [(3, qb r4), (29, qb r4)] [] (.blockN (.thenN (.region0 (.rd 3 [(4, qj 1), (21, qj 1), (20, qj 0)] [] (.loopN (.pr [1, 3, 4] [1] [] [(1, qp 1 0), (3, qb r4), (4, qj 1)] (W5 a0) ?_))))))
   exact F59_u6_ok n a0 r4
  ·refine SimI.rd 7 (W66 ++ rp [28, 27, 26, 25, 24] tz) [] (.blockN (.thenN (.region0 (.rd 3 [(4, qj 1), (21, qj 1), (20, qj 0)] [] (.loopN (.pr [1, 3, 4] [1] [] [(1, qp 1 0), (3, qb false), (4, qj 1)] (W5 a0) ?_))))))
   exact F59_u6_ok n a0 false
def F59 (n : Nat) (a0 : Thing) : Option Bool :=
 if decide ((0 : Int) ≤ a0.ID) then
  if decide (a0.ID ≤ 1000000) then
   (F75 n a0.At).bind fun (r1 : Bool) =>
   F59_j3 n a0 r1
  else
   F59_j3 n a0 false
 else
  F59_j3 n a0 false
theorem F59_ok (n : Nat) (a0 : Thing) : ∀ r, F59 n a0 = some r → D 59 [.agg (Thing.cells a0)] [] = some (F59_e r) := by
 refine fn_to (D := D) (n := n + 8) (nt := 31) (rs := pc59_r) (c := p59c22) (L := [(0, .agg (Thing.cells a0))]) (M := []) (k := 0) rfl rfl rfl rfl rfl rfl rfl ?_
 unfold F59
 refine Sim.sr 2 W22 (W5 a0) (.st 4 (rp [8, 7] (qb (decide ((0 : Int) ≤ a0.ID))) ++ [(6, qj a0.ID), (5, qp 1 0)]) [] (.sp 8 _ ?_ ?_))
 ·refine SimI.rn 5 (rp [13, 12, 11] (qb (decide (a0.ID ≤ 1000000))) ++ [(10, qj a0.ID), (9, qp 1 0)]) [] (.sp 13 _ ?_ ?_)
  ·refine SimI.rn 2 [(15, .agg [lj a0.At.X, lj a0.At.Y]), (14, qp 1 1)] [] (.cl 16 true [[]] 75 [15] (some (13, true)) (fun r1 => qb r1) [.agg [lj a0.At.X, lj a0.At.Y]] (F75_ok _ _) (fun r1 => ?_))
   refine SimI.rd 2 [(3, qb r1), (17, qb r1)] [] (.thenN (.pr [1, 3] [1] [] [(1, qp 1 0), (3, qb r1)] (W5 a0) ?_))
   exact F59_j3_ok n a0 r1
  ·refine SimI.rd 5 [(3, qb false), (17, qb false), (16, tz), (15, tz), (14, tz)] [] (.thenN (.pr [1, 3] [1] [] [(1, qp 1 0), (3, qb false)] (W5 a0) ?_))
   exact F59_j3_ok n a0 false
 ·refine SimI.rd 10 [(3, qb false), (17, qb false), (16, tz), (15, tz), (14, tz), (13, qb false), (12, qb false), (11, tz), (10, tz), (9, tz)] [] (.thenN (.pr [1, 3] [1] [] [(1, qp 1 0), (3, qb false)] (W5 a0) ?_))
  exact F59_j3_ok n a0 false
def F60_e : Bool → PV × List Ob := fun r => (.one (lb r), [])
def F60_u10 (n : Nat) : Option Bool :=
  some true
theorem F60_u10_ok (n : Nat) (a0 : Delta) : SimL Try.prog D (n + 8) (n + 4) p60c32 [(1, qp 1 0), (3, qj 4)] (W4 a0) (F60_u10 n) (QB 0 (QT Try.prog D (n + 8) p60c38 (QF false pc60_r 0 F60_e))) := by
  unfold F60_u10
  exact SimL.succ (.seq (.seq (.rg [(1, qp 1 0), (3, qj 4)] (W4 a0) (.rd 2 [(45, qb false), (44, qj 4)] [] (.thenN (.cf (.exit (.thenX (.loopX (.blockX (.thenN (.sr 1 [(2, qb true)] [] (.ret .fn)))))))))))))
def F60_u8 (n : Nat) (a0 : Delta) : Option Bool :=
  (F70 n a0.F.a3).bind fun (r9 : Bool) =>
  if !(r9) then
   some false
  else
   if (bitsI .and .u8 (shrI .u8 a0.Mask 4) 1) == 0 then
    if !(Field.eqb a0.F.a3 (Field.mk 0 ByteArray.empty)) then
     some false
    else
     F60_u10 n
   else
    F60_u10 n
theorem F60_u8_ok (n : Nat) (a0 : Delta) : SimL Try.prog D (n + 8) (n + 5) p60c32 [(1, qp 1 0), (3, qj 3)] (W4 a0) (F60_u8 n a0) (QB 0 (QT Try.prog D (n + 8) p60c38 (QF false pc60_r 0 F60_e))) := by
  unfold F60_u8
  refine SimL.succ (.seq (.seq (.rg [(1, qp 1 0), (3, qj 3)] (W4 a0) (.rd 2 [(45, qb true), (44, qj 3)] [] (.thenN (.ct (.skip (.thenN (.seq (.block (.st 4 [(51, .agg (W27 a0)), (50, qp 1 10), (49, qp 1 4), (48, qj 3)] [] (.cl 52 true [[]] 70 [51] none (fun r9 => qb r9) [.agg (W27 a0)] (F70_ok _ _) (fun r9 => ?_)))))))))))))
  refine SimI.rn 2 (W44 r9) [] (.sp 54 _ ?_ ?_)
  ·exact SimI.rd 17 ([(71, qb true)] ++ rp W39 tz) [] (.thenN (.ct (.sr 1 [(2, qb false)] [] (.ret (.blockR (.thenR (.loopR (.blockR (.thenR .fn)))))))))
  ·refine SimI.rn 9 (rp [63, 62] (qb ((bitsI .and .u8 (shrI .u8 a0.Mask 4) 1) == 0)) ++ [(61, .one (li .u8 (bitsI .and .u8 (shrI .u8 a0.Mask 4) 1))), (60, .one (li .u8 (shrI .u8 a0.Mask 4))), (59, .one (li .u64 4)), (58, qj 4), (57, qj 3), (56, .one (li .u8 a0.Mask)), (55, qp 1 1)]) [] (.sp 63 _ ?_ ?_)
   ·refine SimI.rn 5 [(68, .agg [lj 0, ls be]), (67, .agg (W27 a0)), (66, qp 1 10), (65, qp 1 4), (64, qj 3)] [] (.se ⟨some 69, .prim (.bin .neq 51 false false) [67, 68], some (63, true), []⟩ [(69, qb (!(Field.eqb a0.F.a3 (Field.mk 0 be))))] [] (pe (ep (Field_eqn a0.F.a3 (Field.mk 0 be) _ _))) (.rd 2 (rp [71, 70] (qb (!(Field.eqb a0.F.a3 (Field.mk 0 be))))) [] (.thenN (.cd _ ?_ ?_))))
    ·exact Sim.sr 1 [(2, qb false)] [] (.ret (.blockR (.thenR (.loopR (.blockR (.thenR .fn))))))
    ·refine Sim.skip (.blockN (.thenN (.region0 (.rd 3 [(3, qj 4), (47, qj 4), (46, qj 3)] [] (.loopN (.pr [1, 3] [1] [] [(1, qp 1 0), (3, qj 4)] (W4 a0) ?_))))))
     exact F60_u10_ok n a0
   ·refine SimI.rd 8 (W65 ++ rp [69, 68, 67, 66, 65, 64] tz) [] (.thenN (.cf (.skip (.blockN (.thenN (.region0 (.rd 3 [(3, qj 4), (47, qj 4), (46, qj 3)] [] (.loopN (.pr [1, 3] [1] [] [(1, qp 1 0), (3, qj 4)] (W4 a0) ?_)))))))))
    exact F60_u10_ok n a0
def F60_u6 (n : Nat) (a0 : Delta) : Option Bool :=
  (F70 n a0.F.a2).bind fun (r7 : Bool) =>
  if !(r7) then
   some false
  else
   if (bitsI .and .u8 (shrI .u8 a0.Mask 3) 1) == 0 then
    if !(Field.eqb a0.F.a2 (Field.mk 0 ByteArray.empty)) then
     some false
    else
     F60_u8 n a0
   else
    F60_u8 n a0
theorem F60_u6_ok (n : Nat) (a0 : Delta) : SimL Try.prog D (n + 8) (n + 6) p60c32 [(1, qp 1 0), (3, qj 2)] (W4 a0) (F60_u6 n a0) (QB 0 (QT Try.prog D (n + 8) p60c38 (QF false pc60_r 0 F60_e))) := by
  unfold F60_u6
  refine SimL.succ (.seq (.seq (.rg [(1, qp 1 0), (3, qj 2)] (W4 a0) (.rd 2 [(45, qb true), (44, qj 2)] [] (.thenN (.ct (.skip (.thenN (.seq (.block (.st 4 [(51, .agg (W28 a0)), (50, qp 1 8), (49, qp 1 4), (48, qj 2)] [] (.cl 52 true [[]] 70 [51] none (fun r7 => qb r7) [.agg (W28 a0)] (F70_ok _ _) (fun r7 => ?_)))))))))))))
  refine SimI.rn 2 (W44 r7) [] (.sp 54 _ ?_ ?_)
  ·exact SimI.rd 17 ([(71, qb true)] ++ rp W39 tz) [] (.thenN (.ct (.sr 1 [(2, qb false)] [] (.ret (.blockR (.thenR (.loopR (.blockR (.thenR .fn)))))))))
  ·refine SimI.rn 9 (rp [63, 62] (qb ((bitsI .and .u8 (shrI .u8 a0.Mask 3) 1) == 0)) ++ [(61, .one (li .u8 (bitsI .and .u8 (shrI .u8 a0.Mask 3) 1))), (60, .one (li .u8 (shrI .u8 a0.Mask 3))), (59, .one (li .u64 3)), (58, qj 3), (57, qj 2), (56, .one (li .u8 a0.Mask)), (55, qp 1 1)]) [] (.sp 63 _ ?_ ?_)
   ·refine SimI.rn 5 [(68, .agg [lj 0, ls be]), (67, .agg (W28 a0)), (66, qp 1 8), (65, qp 1 4), (64, qj 2)] [] (.se ⟨some 69, .prim (.bin .neq 51 false false) [67, 68], some (63, true), []⟩ [(69, qb (!(Field.eqb a0.F.a2 (Field.mk 0 be))))] [] (pe (ep (Field_eqn a0.F.a2 (Field.mk 0 be) _ _))) (.rd 2 (rp [71, 70] (qb (!(Field.eqb a0.F.a2 (Field.mk 0 be))))) [] (.thenN (.cd _ ?_ ?_))))
    ·exact Sim.sr 1 [(2, qb false)] [] (.ret (.blockR (.thenR (.loopR (.blockR (.thenR .fn))))))
    ·refine Sim.skip (.blockN (.thenN (.region0 (.rd 3 [(3, qj 3), (47, qj 3), (46, qj 2)] [] (.loopN (.pr [1, 3] [1] [] [(1, qp 1 0), (3, qj 3)] (W4 a0) ?_))))))
     exact F60_u8_ok n a0
   ·refine SimI.rd 8 (W65 ++ rp [69, 68, 67, 66, 65, 64] tz) [] (.thenN (.cf (.skip (.blockN (.thenN (.region0 (.rd 3 [(3, qj 3), (47, qj 3), (46, qj 2)] [] (.loopN (.pr [1, 3] [1] [] [(1, qp 1 0), (3, qj 3)] (W4 a0) ?_)))))))))
    exact F60_u8_ok n a0
def F60_u4 (n : Nat) (a0 : Delta) : Option Bool :=
  (F70 n a0.F.a1).bind fun (r5 : Bool) =>
  if !(r5) then
   some false
  else
   if (bitsI .and .u8 (shrI .u8 a0.Mask 2) 1) == 0 then
    if !(Field.eqb a0.F.a1 (Field.mk 0 ByteArray.empty)) then
     some false
    else
     F60_u6 n a0
   else
    F60_u6 n a0
theorem F60_u4_ok (n : Nat) (a0 : Delta) : SimL Try.prog D (n + 8) (n + 7) p60c32 [(1, qp 1 0), (3, qj 1)] (W4 a0) (F60_u4 n a0) (QB 0 (QT Try.prog D (n + 8) p60c38 (QF false pc60_r 0 F60_e))) := by
  unfold F60_u4
  refine SimL.succ (.seq (.seq (.rg [(1, qp 1 0), (3, qj 1)] (W4 a0) (.rd 2 [(45, qb true), (44, qj 1)] [] (.thenN (.ct (.skip (.thenN (.seq (.block (.st 4 [(51, .agg (W29 a0)), (50, qp 1 6), (49, qp 1 4), (48, qj 1)] [] (.cl 52 true [[]] 70 [51] none (fun r5 => qb r5) [.agg (W29 a0)] (F70_ok _ _) (fun r5 => ?_)))))))))))))
  refine SimI.rn 2 (W44 r5) [] (.sp 54 _ ?_ ?_)
  ·exact SimI.rd 17 ([(71, qb true)] ++ rp W39 tz) [] (.thenN (.ct (.sr 1 [(2, qb false)] [] (.ret (.blockR (.thenR (.loopR (.blockR (.thenR .fn)))))))))
  ·refine SimI.rn 9 (rp [63, 62] (qb ((bitsI .and .u8 (shrI .u8 a0.Mask 2) 1) == 0)) ++ [(61, .one (li .u8 (bitsI .and .u8 (shrI .u8 a0.Mask 2) 1))), (60, .one (li .u8 (shrI .u8 a0.Mask 2))), (59, .one (li .u64 2)), (58, qj 2), (57, qj 1), (56, .one (li .u8 a0.Mask)), (55, qp 1 1)]) [] (.sp 63 _ ?_ ?_)
   ·refine SimI.rn 5 [(68, .agg [lj 0, ls be]), (67, .agg (W29 a0)), (66, qp 1 6), (65, qp 1 4), (64, qj 1)] [] (.se ⟨some 69, .prim (.bin .neq 51 false false) [67, 68], some (63, true), []⟩ [(69, qb (!(Field.eqb a0.F.a1 (Field.mk 0 be))))] [] (pe (ep (Field_eqn a0.F.a1 (Field.mk 0 be) _ _))) (.rd 2 (rp [71, 70] (qb (!(Field.eqb a0.F.a1 (Field.mk 0 be))))) [] (.thenN (.cd _ ?_ ?_))))
    ·exact Sim.sr 1 [(2, qb false)] [] (.ret (.blockR (.thenR (.loopR (.blockR (.thenR .fn))))))
    ·refine Sim.skip (.blockN (.thenN (.region0 (.rd 3 [(3, qj 2), (47, qj 2), (46, qj 1)] [] (.loopN (.pr [1, 3] [1] [] [(1, qp 1 0), (3, qj 2)] (W4 a0) ?_))))))
     exact F60_u6_ok n a0
   ·refine SimI.rd 8 (W65 ++ rp [69, 68, 67, 66, 65, 64] tz) [] (.thenN (.cf (.skip (.blockN (.thenN (.region0 (.rd 3 [(3, qj 2), (47, qj 2), (46, qj 1)] [] (.loopN (.pr [1, 3] [1] [] [(1, qp 1 0), (3, qj 2)] (W4 a0) ?_)))))))))
    exact F60_u6_ok n a0
def F60_j2 (n : Nat) (a0 : Delta) : Option Bool :=
  (F70 n a0.F.a0).bind fun (r3 : Bool) =>
  if !(r3) then
   some false
  else
   if (bitsI .and .u8 (shrI .u8 a0.Mask 1) 1) == 0 then
    if !(Field.eqb a0.F.a0 (Field.mk 0 ByteArray.empty)) then
     some false
    else
     F60_u4 n a0
   else
    F60_u4 n a0
theorem F60_j2_ok (n : Nat) (a0 : Delta) : Sim Try.prog D (n + 8) p60c39 [(1, qp 1 0)] (W4 a0) (F60_j2 n a0) (QF false pc60_r 0 F60_e) := by
  unfold F60_j2
  refine Sim.seq (.seq (.rs (.rd 1 [(3, qj 0)] [] (.thenN (.block (.loop (.succ (.seq (.seq (.rg [(1, qp 1 0), (3, qj 0)] (W4 a0) (.rd 2 [(45, qb true), (44, qj 0)] [] (.thenN (.ct (.skip (.thenN (.seq (.block (.st 4 [(51, .agg (W30 a0)), (50, qp 1 4), (49, qp 1 4), (48, qj 0)] [] (.cl 52 true [[]] 70 [51] none (fun r3 => qb r3) [.agg (W30 a0)] (F70_ok _ _) (fun r3 => ?_))))))))))))))))))))
  refine SimI.rn 2 (W44 r3) [] (.sp 54 _ ?_ ?_)
  ·exact SimI.rd 17 ([(71, qb true)] ++ rp W39 tz) [] (.thenN (.ct (.sr 1 [(2, qb false)] [] (.ret (.blockR (.thenR (.loopR (.blockR (.thenR .fn)))))))))
  ·refine SimI.rn 9 (rp [63, 62] (qb ((bitsI .and .u8 (shrI .u8 a0.Mask 1) 1) == 0)) ++ [(61, .one (li .u8 (bitsI .and .u8 (shrI .u8 a0.Mask 1) 1))), (60, .one (li .u8 (shrI .u8 a0.Mask 1))), (59, .one (li .u64 1)), (58, qj 1), (57, qj 0), (56, .one (li .u8 a0.Mask)), (55, qp 1 1)]) [] (.sp 63 _ ?_ ?_)
   ·refine SimI.rn 5 [(68, .agg [lj 0, ls be]), (67, .agg (W30 a0)), (66, qp 1 4), (65, qp 1 4), (64, qj 0)] [] (.se ⟨some 69, .prim (.bin .neq 51 false false) [67, 68], some (63, true), []⟩ [(69, qb (!(Field.eqb a0.F.a0 (Field.mk 0 be))))] [] (pe (ep (Field_eqn a0.F.a0 (Field.mk 0 be) _ _))) (.rd 2 (rp [71, 70] (qb (!(Field.eqb a0.F.a0 (Field.mk 0 be))))) [] (.thenN (.cd _ ?_ ?_))))
    ·exact Sim.sr 1 [(2, qb false)] [] (.ret (.blockR (.thenR (.loopR (.blockR (.thenR .fn))))))
    ·refine Sim.skip (.blockN (.thenN (.region0 (.rd 3 [(3, qj 1), (47, qj 1), (46, qj 0)] [] (.loopN (.pr [1, 3] [1] [] [(1, qp 1 0), (3, qj 1)] (W4 a0) ?_))))))
     exact F60_u4_ok n a0
   ·refine SimI.rd 8 (W65 ++ rp [69, 68, 67, 66, 65, 64] tz) [] (.thenN (.cf (.skip (.blockN (.thenN (.region0 (.rd 3 [(3, qj 1), (47, qj 1), (46, qj 0)] [] (.loopN (.pr [1, 3] [1] [] [(1, qp 1 0), (3, qj 1)] (W4 a0) ?_)))))))))
    exact F60_u4_ok n a0
def F60 (n : Nat) (a0 : Delta) : Option Bool :=
 if decide (a0.ID < 0) then
  some false
 else
  if decide ((1000000 : Int) < a0.ID) then
   some false
  else
   if decide (a0.Mask < 1) then
    some false
   else
    if decide ((31 : Int) < a0.Mask) then
     some false
    else
     if (bitsI .and .u8 a0.Mask 1) != 0 then
      (F75 n a0.At).bind fun (r1 : Bool) =>
      if !(r1) then
       some false
      else
       if (bitsI .and .u8 a0.Mask 1) == 0 then
        if !(Point.eqb a0.At (Point.mk 0 0)) then
         some false
        else
         F60_j2 n a0
       else
        F60_j2 n a0
     else
      if (bitsI .and .u8 a0.Mask 1) == 0 then
       if !(Point.eqb a0.At (Point.mk 0 0)) then
        some false
       else
        F60_j2 n a0
      else
       F60_j2 n a0
theorem F60_ok (n : Nat) (a0 : Delta) : ∀ r, F60 n a0 = some r → D 60 [.agg (Delta.cells a0)] [] = some (F60_e r) := by
 refine fn_to (D := D) (n := n + 8) (nt := 72) (rs := pc60_r) (c := p60c42) (L := [(0, .agg (Delta.cells a0))]) (M := []) (k := 0) rfl rfl rfl rfl rfl rfl rfl ?_
 unfold F60
 refine Sim.sr 2 W22 (W4 a0) (.seq (.st 4 (rp [7, 6] (qb (decide (a0.ID < 0))) ++ [(5, qj a0.ID), (4, qp 1 0)]) [] (.sp 7 _ ?_ ?_)))
 ·exact SimI.rd 14 [(21, qb true), (20, tz), (19, tz), (18, tz), (17, qb true), (16, qb true), (15, tz), (14, tz), (13, tz), (12, qb true), (11, qb true), (10, tz), (9, tz), (8, tz)] [] (.thenN (.ct (.sr 1 [(2, qb false)] [] (.ret (.thenR .fn)))))
 ·refine SimI.rn 5 (rp [12, 11, 10] (qb (decide ((1000000 : Int) < a0.ID))) ++ [(9, qj a0.ID), (8, qp 1 0)]) [] (.sp 12 _ ?_ ?_)
  ·exact SimI.rd 9 [(21, qb true), (20, tz), (19, tz), (18, tz), (17, qb true), (16, qb true), (15, tz), (14, tz), (13, tz)] [] (.thenN (.ct (.sr 1 [(2, qb false)] [] (.ret (.thenR .fn)))))
  ·refine SimI.rn 5 (rp [17, 16, 15] (qb (decide (a0.Mask < 1))) ++ [(14, .one (li .u8 a0.Mask)), (13, qp 1 1)]) [] (.sp 17 _ ?_ ?_)
   ·exact SimI.rd 4 [(21, qb true), (20, tz), (19, tz), (18, tz)] [] (.thenN (.ct (.sr 1 [(2, qb false)] [] (.ret (.thenR .fn)))))
   ·refine SimI.rd 4 (rp [21, 20] (qb (decide ((31 : Int) < a0.Mask))) ++ [(19, .one (li .u8 a0.Mask)), (18, qp 1 1)]) [] (.thenN (.cd _ ?_ ?_))
    ·exact Sim.sr 1 [(2, qb false)] [] (.ret (.thenR .fn))
    ·refine Sim.skip (.thenN (.seq (.st 5 (rp [26, 25] (qb ((bitsI .and .u8 a0.Mask 1) != 0)) ++ [(24, .one (li .u8 (bitsI .and .u8 a0.Mask 1))), (23, .one (li .u8 a0.Mask)), (22, qp 1 1)]) [] (.sp 26 _ ?_ ?_))))
     ·refine SimI.rn 2 [(28, .agg [lj a0.At.X, lj a0.At.Y]), (27, qp 1 2)] [] (.cl 29 true [[]] 75 [28] (some (26, true)) (fun r1 => qb r1) [.agg [lj a0.At.X, lj a0.At.Y]] (F75_ok _ _) (fun r1 => ?_))
      refine SimI.rn 3 (rp [32, 31, 30] (qb (!(r1)))) [] (.sp 32 _ ?_ ?_)
      ·exact SimI.rd 11 ([(43, qb true)] ++ rp [42, 41, 40, 39, 38, 37, 36, 35, 34, 33] tz) [] (.thenN (.ct (.sr 1 [(2, qb false)] [] (.ret (.thenR .fn)))))
      ·refine SimI.rn 5 (rp [37, 36] (qb ((bitsI .and .u8 a0.Mask 1) == 0)) ++ [(35, .one (li .u8 (bitsI .and .u8 a0.Mask 1))), (34, .one (li .u8 a0.Mask)), (33, qp 1 1)]) [] (.sp 37 _ ?_ ?_)
       ·refine SimI.rn 3 [(40, .agg [lj 0, lj 0]), (39, .agg [lj a0.At.X, lj a0.At.Y]), (38, qp 1 2)] [] (.se ⟨some 41, .prim (.bin .neq 49 false false) [39, 40], some (37, true), []⟩ [(41, qb (!(Point.eqb a0.At (Point.mk 0 0))))] [] (pe (ep (Point_eqn a0.At (Point.mk 0 0) _ _))) (.rd 2 (w18 a0) [] (.thenN (.cd _ ?_ ?_))))
        ·exact Sim.sr 1 [(2, qb false)] [] (.ret (.thenR .fn))
        ·refine Sim.skip (.thenN (.pr [1] [1] [] [(1, qp 1 0)] (W4 a0) ?_))
         exact F60_j2_ok n a0
       ·refine SimI.rd 6 [(43, qb false), (42, qb false), (41, tz), (40, tz), (39, tz), (38, tz)] [] (.thenN (.cf (.skip (.thenN (.pr [1] [1] [] [(1, qp 1 0)] (W4 a0) ?_)))))
        exact F60_j2_ok n a0
     ·refine SimI.rn 11 (rp [37, 36] (qb ((bitsI .and .u8 a0.Mask 1) == 0)) ++ [(35, .one (li .u8 (bitsI .and .u8 a0.Mask 1))), (34, .one (li .u8 a0.Mask)), (33, qp 1 1), (32, qb false), (31, qb false), (30, tz), (29, tz), (28, tz), (27, tz)]) [] (.sp 37 _ ?_ ?_)
      ·refine SimI.rn 3 [(40, .agg [lj 0, lj 0]), (39, .agg [lj a0.At.X, lj a0.At.Y]), (38, qp 1 2)] [] (.se ⟨some 41, .prim (.bin .neq 49 false false) [39, 40], some (37, true), []⟩ [(41, qb (!(Point.eqb a0.At (Point.mk 0 0))))] [] (pe (ep (Point_eqn a0.At (Point.mk 0 0) _ _))) (.rd 2 (w18 a0) [] (.thenN (.cd _ ?_ ?_))))
       ·exact Sim.sr 1 [(2, qb false)] [] (.ret (.thenR .fn))
       ·refine Sim.skip (.thenN (.pr [1] [1] [] [(1, qp 1 0)] (W4 a0) ?_))
        exact F60_j2_ok n a0
      ·refine SimI.rd 6 [(43, qb false), (42, qb false), (41, tz), (40, tz), (39, tz), (38, tz)] [] (.thenN (.cf (.skip (.thenN (.pr [1] [1] [] [(1, qp 1 0)] (W4 a0) ?_)))))
       exact F60_j2_ok n a0
def F48_e : Bool → PV × List Ob := fun r => (.one (lb r), [])
def F48 (n : Nat) (a0 : Event) : Option Bool :=
 if a0.Kind == 1 then
  (F59 n a0.Thing).bind fun (r1 : Bool) =>
  if r1 then
   if a0.ID == a0.Thing.ID then
    some (Delta.eqb a0.Delta (Delta.mk 0 0 (Point.mk 0 0) (A4.mk (Field.mk 0 ByteArray.empty) (Field.mk 0 ByteArray.empty) (Field.mk 0 ByteArray.empty) (Field.mk 0 ByteArray.empty))))
   else
    some false
  else
   some false
 else
  if a0.Kind == 2 then
   (F60 n a0.Delta).bind fun (r2 : Bool) =>
   if r2 then
    if a0.ID == a0.Delta.ID then
     some (Thing.eqb a0.Thing (Thing.mk 0 (Point.mk 0 0) (A4.mk (Field.mk 0 ByteArray.empty) (Field.mk 0 ByteArray.empty) (Field.mk 0 ByteArray.empty) (Field.mk 0 ByteArray.empty))))
    else
     some false
   else
    some false
  else
   if a0.Kind == 3 then
    if decide ((0 : Int) ≤ a0.ID) then
     if decide (a0.ID ≤ 1000000) then
      if Thing.eqb a0.Thing (Thing.mk 0 (Point.mk 0 0) (A4.mk (Field.mk 0 ByteArray.empty) (Field.mk 0 ByteArray.empty) (Field.mk 0 ByteArray.empty) (Field.mk 0 ByteArray.empty))) then
       some (Delta.eqb a0.Delta (Delta.mk 0 0 (Point.mk 0 0) (A4.mk (Field.mk 0 ByteArray.empty) (Field.mk 0 ByteArray.empty) (Field.mk 0 ByteArray.empty) (Field.mk 0 ByteArray.empty))))
      else
       some false
     else
      some false
    else
     some false
   else
    some false
theorem F48_ok (n : Nat) (a0 : Event) : ∀ r, F48 n a0 = some r → D 48 [.agg (Event.cells a0)] [] = some (F48_e r) := by
 refine fn_to (D := D) (n := n + 8) (nt := 65) (rs := pc48_r) (c := p48c28) (L := [(0, .agg (Event.cells a0))]) (M := []) (k := 0) rfl rfl rfl rfl rfl rfl rfl ?_
 unfold F48
 refine Sim.sr 2 W22 [(1, some (.cells (Event.cells a0)))] (.seq (.sr 2 [(4, qj a0.Kind), (3, qp 1 0)] [] (.block (.sr 2 (rp [5, 6] (qb (a0.Kind == 1))) [] (.cd _ ?_ ?_)))))
 ·refine Sim.st 2 [(8, .agg (Thing.cells a0.Thing)), (7, qp 1 2)] [] (.cl 9 true [[]] 59 [8] none (fun r1 => qb r1) [.agg (Thing.cells a0.Thing)] (F59_ok _ _) (fun r1 => ?_))
  refine SimI.rn 1 [(10, qb r1)] [] (.sp 10 _ ?_ ?_)
  ·refine SimI.rn 8 (rp [18, 17, 16] (qb (a0.ID == a0.Thing.ID)) ++ [(15, qj a0.Thing.ID), (14, qp 1 2), (13, qp 1 2), (12, qj a0.ID), (11, qp 1 1)]) [] (.sp 18 _ ?_ ?_)
   ·exact SimI.rn 3 [(21, .agg W45), (20, .agg (Delta.cells a0.Delta)), (19, qp 1 13)] [] (.se ⟨some 22, .prim (.bin .eql 56 false false) [20, 21], some (18, true), []⟩ [(22, qb (Delta.eqb a0.Delta (Delta.mk 0 0 (Point.mk 0 0) (A4.mk (Field.mk 0 be) (Field.mk 0 be) (Field.mk 0 be) (Field.mk 0 be)))))] [] (pe (ep (Delta_eql a0.Delta (Delta.mk 0 0 (Point.mk 0 0) (A4.mk (Field.mk 0 be) (Field.mk 0 be) (Field.mk 0 be) (Field.mk 0 be))) _ _))) (.rd 2 (rp [2, 23] (qb (Delta.eqb a0.Delta (Delta.mk 0 0 (Point.mk 0 0) (A4.mk (Field.mk 0 be) (Field.mk 0 be) (Field.mk 0 be) (Field.mk 0 be)))))) [] (.thenN (.ret (.blockR (.thenR .fn))))))
   ·exact SimI.rd 6 [(2, qb false), (23, qb false), (22, tz), (21, tz), (20, tz), (19, tz)] [] (.thenN (.ret (.blockR (.thenR .fn))))
  ·exact SimI.rd 14 ([(2, qb false), (23, qb false), (22, tz), (21, tz), (20, tz), (19, tz), (18, qb false), (17, qb false)] ++ rp [16, 15, 14, 13, 12, 11] tz) [] (.thenN (.ret (.blockR (.thenR .fn))))
 ·refine Sim.sr 2 (rp [24, 25] (qb (a0.Kind == 2))) [] (.cd _ ?_ ?_)
  ·refine Sim.st 2 [(27, .agg (Delta.cells a0.Delta)), (26, qp 1 13)] [] (.cl 28 true [[]] 60 [27] none (fun r2 => qb r2) [.agg (Delta.cells a0.Delta)] (F60_ok _ _) (fun r2 => ?_))
   refine SimI.rn 1 [(29, qb r2)] [] (.sp 29 _ ?_ ?_)
   ·refine SimI.rn 8 (rp [37, 36, 35] (qb (a0.ID == a0.Delta.ID)) ++ [(34, qj a0.Delta.ID), (33, qp 1 13), (32, qp 1 13), (31, qj a0.ID), (30, qp 1 1)]) [] (.sp 37 _ ?_ ?_)
    ·exact SimI.rn 3 [(40, .agg W0), (39, .agg (Thing.cells a0.Thing)), (38, qp 1 2)] [] (.se ⟨some 41, .prim (.bin .eql 54 false false) [39, 40], some (37, true), []⟩ [(41, qb (Thing.eqb a0.Thing (Thing.mk 0 (Point.mk 0 0) (A4.mk (Field.mk 0 be) (Field.mk 0 be) (Field.mk 0 be) (Field.mk 0 be)))))] [] (pe (ep (Thing_eql a0.Thing (Thing.mk 0 (Point.mk 0 0) (A4.mk (Field.mk 0 be) (Field.mk 0 be) (Field.mk 0 be) (Field.mk 0 be))) _ _))) (.rd 2 (rp [2, 42] (qb (Thing.eqb a0.Thing (Thing.mk 0 (Point.mk 0 0) (A4.mk (Field.mk 0 be) (Field.mk 0 be) (Field.mk 0 be) (Field.mk 0 be)))))) [] (.thenN (.ret (.blockR (.thenR .fn))))))
    ·exact SimI.rd 6 [(2, qb false), (42, qb false), (41, tz), (40, tz), (39, tz), (38, tz)] [] (.thenN (.ret (.blockR (.thenR .fn))))
   ·exact SimI.rd 14 ([(2, qb false), (42, qb false), (41, tz), (40, tz), (39, tz), (38, tz), (37, qb false), (36, qb false)] ++ rp [35, 34, 33, 32, 31, 30] tz) [] (.thenN (.ret (.blockR (.thenR .fn))))
  ·refine Sim.sr 2 (rp [43, 44] (qb (a0.Kind == 3))) [] (.cd _ ?_ ?_)
   ·refine Sim.st 4 (rp [48, 47] (qb (decide ((0 : Int) ≤ a0.ID))) ++ [(46, qj a0.ID), (45, qp 1 1)]) [] (.sp 48 _ ?_ ?_)
    ·refine SimI.rn 5 (rp [53, 52, 51] (qb (decide (a0.ID ≤ 1000000))) ++ [(50, qj a0.ID), (49, qp 1 1)]) [] (.sp 53 _ ?_ ?_)
     ·refine SimI.rn 3 [(56, .agg W0), (55, .agg (Thing.cells a0.Thing)), (54, qp 1 2)] [] (.se ⟨some 57, .prim (.bin .eql 54 false false) [55, 56], some (53, true), []⟩ [(57, qb (Thing.eqb a0.Thing (Thing.mk 0 (Point.mk 0 0) (A4.mk (Field.mk 0 be) (Field.mk 0 be) (Field.mk 0 be) (Field.mk 0 be)))))] [] (pe (ep (Thing_eql a0.Thing (Thing.mk 0 (Point.mk 0 0) (A4.mk (Field.mk 0 be) (Field.mk 0 be) (Field.mk 0 be) (Field.mk 0 be))) _ _))) (.rn 2 (rp [59, 58] (qb (Thing.eqb a0.Thing (Thing.mk 0 (Point.mk 0 0) (A4.mk (Field.mk 0 be) (Field.mk 0 be) (Field.mk 0 be) (Field.mk 0 be)))))) [] (.sp 59 _ ?_ ?_)))
      ·exact SimI.rn 3 [(62, .agg W45), (61, .agg (Delta.cells a0.Delta)), (60, qp 1 13)] [] (.se ⟨some 63, .prim (.bin .eql 56 false false) [61, 62], some (59, true), []⟩ [(63, qb (Delta.eqb a0.Delta (Delta.mk 0 0 (Point.mk 0 0) (A4.mk (Field.mk 0 be) (Field.mk 0 be) (Field.mk 0 be) (Field.mk 0 be)))))] [] (pe (ep (Delta_eql a0.Delta (Delta.mk 0 0 (Point.mk 0 0) (A4.mk (Field.mk 0 be) (Field.mk 0 be) (Field.mk 0 be) (Field.mk 0 be))) _ _))) (.rd 2 (rp [2, 64] (qb (Delta.eqb a0.Delta (Delta.mk 0 0 (Point.mk 0 0) (A4.mk (Field.mk 0 be) (Field.mk 0 be) (Field.mk 0 be) (Field.mk 0 be)))))) [] (.thenN (.ret (.blockR (.thenR .fn))))))
      ·exact SimI.rd 6 [(2, qb false), (64, qb false), (63, tz), (62, tz), (61, tz), (60, tz)] [] (.thenN (.ret (.blockR (.thenR .fn))))
     ·exact SimI.rd 12 [(2, qb false), (64, qb false), (63, tz), (62, tz), (61, tz), (60, tz), (59, qb false), (58, qb false), (57, tz), (56, tz), (55, tz), (54, tz)] [] (.thenN (.ret (.blockR (.thenR .fn))))
    ·exact SimI.rd 17 [(2, qb false), (64, qb false), (63, tz), (62, tz), (61, tz), (60, tz), (59, qb false), (58, qb false), (57, tz), (56, tz), (55, tz), (54, tz), (53, qb false), (52, qb false), (51, tz), (50, tz), (49, tz)] [] (.thenN (.ret (.blockR (.thenR .fn))))
   ·exact Sim.skip (.blockN (.thenN (.sr 1 [(2, qb false)] [] (.ret .fn))))
def F87_e : Int → PV × List Ob := fun r => (.one (li .i64 r), [])
def F87_l4 (n : Nat) (a0 : (List Thing)) (a1 : Int) : Nat → Int → Option Int
 | 0, _ => none
 | m + 1, i3 =>
  if decide (i3 < ((a0).length : Int)) then
   (ix a0 i3).bind fun (x5 : Thing) =>
   if x5.ID == a1 then
    some i3
   else
    (F87_l4 n a0 a1 m) (IntKind.wrap .i64 (i3 + 1))
  else
   some (-1)
theorem F87_l4_ok (n : Nat) (a0 : (List Thing)) (a1 : Int) : ∀ (m : Nat) (i3 : Int), SimL Try.prog D (n + 8) m p87c18 [(0, .one (vw Thing.cod a0)), (1, qj a1), (5, qj i3)] [] (F87_l4 n a0 a1 m i3) (QB 0 (QT Try.prog D (n + 8) p87c24 (QF false pc87_r 0 F87_e))) := by
 intro m_l4
 induction m_l4 with
 | zero => intro i3; exact SimL.zero'  rfl
 | succ m_l4 ih_l4 =>
  intro i3
  refine SimL.succ ?_
  unfold F87_l4
  refine Sim.seq (.seq (.rg [(0, .one (vw Thing.cod a0)), (1, qj a1), (5, qj i3)] [] (.rd 4 [(9, qb (decide (i3 < ((a0).length : Int)))), (8, qj ((a0).length : Int)), (7, .one (vw Thing.cod a0)), (6, qj i3)] [] (.thenN (.cd _ ?_ ?_)))))
  ·refine Sim.skip (.thenN (.seq (.block (.st 2 [(13, qj i3), (12, .one (vw Thing.cod a0))] [] (.bn ⟨some 14, .iaddrS 11 12 13, none, []⟩ (fun x5 => [(14, .one (.eptr (Thing.cod.enc x5) 0))]) (fun x5 => []) (fun x5 hr => pe (ei (c := Thing.cod) (k := .i64) hr)) (fun x5 => ?_))))))
   refine SimI.rd 4 [(18, qb (x5.ID == a1)), (17, qj a1), (16, qj x5.ID), (15, .one (.eptr (Thing.cod.enc x5) 0))] [] (.thenN (.cd _ ?_ ?_))
   ·exact Sim.sr 2 [(4, qj i3), (19, qj i3)] [] (.ret (.blockR (.thenR (.loopR (.blockR (.thenR .fn))))))
   ·refine Sim.skip (.blockN (.thenN (.region0 (.rd 3 (rp [5, 11] (qj (iw .i64 (i3 + 1))) ++ [(10, qj i3)]) [] (.loopN (.pr [0, 1, 5] [] [] [(0, .one (vw Thing.cod a0)), (1, qj a1), (5, qj (iw .i64 (i3 + 1)))] [] ?_))))))
    exact ih_l4 (iw .i64 (i3 + 1))
  ·exact Sim.exit (.thenX (.loopX (.blockX (.thenN (.sr 1 [(4, qj (-1))] [] (.ret .fn))))))
def F87 (n : Nat) (a0 : (List Thing)) (a1 : Int) : Option Int :=
 F87_l4 n a0 a1 (n + 8) 0
theorem F87_ok (n : Nat) (a0 : (List Thing)) (a1 : Int) : ∀ r, F87 n a0 a1 = some r → D 87 [.one (vw Thing.cod a0), .one (li .i64 a1)] [] = some (F87_e r) := by
 refine fn_to (D := D) (n := n + 8) (nt := 20) (rs := pc87_r) (c := p87c26) (L := [(0, .one (vw Thing.cod a0)), (1, qj a1)]) (M := []) (k := 0) rfl rfl rfl rfl rfl rfl rfl ?_
 unfold F87
 refine Sim.sr 1 [(4, qj 0)] [] (.seq (.sr 1 [(5, qj 0)] [] (.block (.loop (.pr [0, 1, 5] [] [] [(0, .one (vw Thing.cod a0)), (1, qj a1), (5, qj 0)] [] ?_)))))
 exact F87_l4_ok n a0 a1 (n + 8) 0
def F88_e : (List Thing) → PV × List Ob := fun r => (.one (vw Thing.cod r), [])
def F88_j14 (n : Nat) (a0 : (List Thing)) (a1 : Thing) (i9 : Int) (rec_l10 : (List Thing) → Bool → Int → Option (List Thing)) (l12 : (List Thing)) (b13 : Bool) : Option (List Thing) :=
  (ix a0 i9).bind fun (x15 : Thing) =>
  if x15.ID != a1.ID then
   (ix a0 i9).bind fun (x16 : Thing) =>
   if ((l12).length + 1) * 120 ≤ maxCells ∧ (l12).length + 1 ≤ maxCells then
    rec_l10 (l12 ++ [x16]) b13 (IntKind.wrap .i64 (i9 + 1))
   else none
  else
   rec_l10 l12 b13 (IntKind.wrap .i64 (i9 + 1))
theorem F88_j14_ok (n : Nat) (a0 : (List Thing)) (a1 : Thing) (i9 : Int) (rec_l10 : (List Thing) → Bool → Int → Option (List Thing)) (m_l10 : Nat) (ih_l10 : ∀ (l7 : (List Thing)) (b8 : Bool) (i9 : Int), SimL Try.prog D (n + 8) m_l10 p88c26 (W17 a0 l7 b8 i9) (W7 a1 l7) (rec_l10 l7 b8 i9) (QB 0 (QT Try.prog D (n + 8) p88c38 (QF false pc88_r 0 F88_e)))) (l12 : (List Thing)) (b13 : Bool) : Sim Try.prog D (n + 8) p88c21 (W17 a0 l12 b13 i9) (W7 a1 l12) (F88_j14 n a0 a1 i9 rec_l10 l12 b13) (QB 1 (QT Try.prog D (n + 8) p88c24 (QL Try.prog D (n + 8) m_l10 p88c26 (QB 0 (QT Try.prog D (n + 8) p88c38 (QF false pc88_r 0 F88_e)))))) := by
  unfold F88_j14
  refine Sim.seq (.rs (.rn 2 [(31, qj i9), (30, .one (vw Thing.cod a0))] [] (.bn ⟨some 32, .iaddrS 11 30 31, none, [(30, .imm), (31, .imm)]⟩ (fun x15 => [(32, .one (.eptr (Thing.cod.enc x15) 0))]) (fun x15 => []) (fun x15 hr => pe (ei (c := Thing.cod) (k := .i64) hr)) (fun x15 => ?_))))
  refine SimI.rd 5 [(37, qb (x15.ID != a1.ID)), (36, qj a1.ID), (35, qp 3 0), (34, qj x15.ID), (33, .one (.eptr (Thing.cod.enc x15) 0))] [] (.thenN (.cd _ ?_ ?_))
  ·refine Sim.region0 (.rn 3 [(40, qj i9), (39, .one (vw Thing.cod a0)), (38, .one (.osl 100005 0 0 (l12).length))] [] (.bn ⟨some 41, .iaddrS 11 39 40, none, []⟩ (fun x16 => [(41, .one (.eptr (Thing.cod.enc x16) 0))]) (fun x16 => []) (fun x16 hr => pe (ei (c := Thing.cod) (k := .i64) hr)) (fun x16 => ?_)))
   refine SimI.rn 2 [(43, .one (vw Thing.cod [x16])), (42, .agg (Thing.cells x16))] [] (.gu ⟨some 44, .app 100005 54 11 120 38 43, none, []⟩ [(44, .one (.osl 100005 (0 + 1) 0 ((l12 ++ [x16])).length))] (W32 l12 x16) (fun hc => pe (eff_appO (c := Thing.cod) (g := 0) (l := l12) (a := x16) (by kernel_rfl) (by kernel_rfl) (by kernel_rfl) (by kernel_rfl) hc)) (.rd 1 (W62 l12 x16) [] (.blockN (.thenN (.region0 (.rd 3 (rp [7, 13] (qj (iw .i64 (i9 + 1))) ++ [(12, qj i9)]) [] (.loopN (.pr [0, 3, 5, 6, 7] [3, 100005] [(false, 5, 0, 100005, 54, 11)] [(0, .one (vw Thing.cod a0)), (3, qp 3 0), (5, .one (.osl 100005 0 0 ((l12 ++ [x16])).length)), (6, qb b13), (7, qj (iw .i64 (i9 + 1)))] [(3, some (.cells (Thing.cells a1))), (100005, some (.arr 54 Thing.cod.sz 0 ((l12 ++ [x16])).length (getOf Thing.cod (l12 ++ [x16]))))] ?_))))))))
   exact ih_l10 (l12 ++ [x16]) b13 (iw .i64 (i9 + 1))
  ·refine Sim.skip (.blockN (.thenN (.region0 (.rd 3 (rp [7, 13] (qj (iw .i64 (i9 + 1))) ++ [(12, qj i9)]) [] (.loopN (.pr [0, 3, 5, 6, 7] [3, 100005] [(false, 5, 0, 100005, 54, 11)] [(0, .one (vw Thing.cod a0)), (3, qp 3 0), (5, .one (.osl 100005 0 0 (l12).length)), (6, qb b13), (7, qj (iw .i64 (i9 + 1)))] (W7 a1 l12) ?_))))))
   exact ih_l10 l12 b13 (iw .i64 (i9 + 1))
def F88_l10 (n : Nat) (a0 : (List Thing)) (a1 : Thing) : Nat → (List Thing) → Bool → Int → Option (List Thing)
 | 0, _, _, _ => none
 | m + 1, l7, b8, i9 =>
  if decide (i9 < ((a0).length : Int)) then
   if !(b8) then
    (ix a0 i9).bind fun (x11 : Thing) =>
    if decide (a1.ID ≤ x11.ID) then
     if ((l7).length + 1) * 120 ≤ maxCells ∧ (l7).length + 1 ≤ maxCells then
      F88_j14 n a0 a1 i9 (F88_l10 n a0 a1 m) (l7 ++ [a1]) true
     else none
    else
     F88_j14 n a0 a1 i9 (F88_l10 n a0 a1 m) l7 b8
   else
    F88_j14 n a0 a1 i9 (F88_l10 n a0 a1 m) l7 b8
  else
   if !(b8) then
    if ((l7).length + 1) * 120 ≤ maxCells ∧ (l7).length + 1 ≤ maxCells then
     some (l7 ++ [a1])
    else none
   else
    some l7
theorem F88_l10_ok (n : Nat) (a0 : (List Thing)) (a1 : Thing) : ∀ (m : Nat) (l7 : (List Thing)) (b8 : Bool) (i9 : Int), SimL Try.prog D (n + 8) m p88c26 (W17 a0 l7 b8 i9) (W7 a1 l7) (F88_l10 n a0 a1 m l7 b8 i9) (QB 0 (QT Try.prog D (n + 8) p88c38 (QF false pc88_r 0 F88_e))) := by
 intro m_l10
 induction m_l10 with
 | zero => intro l7 b8 i9; exact SimL.zero'  rfl
 | succ m_l10 ih_l10 =>
  intro l7 b8 i9
  refine SimL.succ ?_
  unfold F88_l10
  refine Sim.seq (.seq (.rg (W17 a0 l7 b8 i9) (W7 a1 l7) (.rd 4 [(11, qb (decide (i9 < ((a0).length : Int)))), (10, qj ((a0).length : Int)), (9, .one (vw Thing.cod a0)), (8, qj i9)] [] (.thenN (.cd _ ?_ ?_)))))
  ·refine Sim.skip (.thenN (.seq (.block (.seq (.st 3 [(16, qb (!(b8))), (15, qb (!(b8))), (14, qb b8)] [] (.sp 16 _ ?_ ?_))))))
   ·refine SimI.rn 4 [(20, qj i9), (19, .one (vw Thing.cod a0)), (18, qj a1.ID), (17, qp 3 0)] [] (.bn ⟨some 21, .iaddrS 11 19 20, some (16, true), [(19, .imm), (20, .imm)]⟩ (fun x11 => [(21, .one (.eptr (Thing.cod.enc x11) 0))]) (fun x11 => []) (fun x11 hr => pe (ei (c := Thing.cod) (k := .i64) hr)) (fun x11 => ?_))
    refine SimI.rd 4 (rp [25, 24] (qb (decide (a1.ID ≤ x11.ID))) ++ [(23, qj x11.ID), (22, .one (.eptr (Thing.cod.enc x11) 0))]) [] (.thenN (.cd _ ?_ ?_))
    ·refine Sim.st 3 [(28, .one (vw Thing.cod [a1])), (27, .agg (Thing.cells a1)), (26, .one (.osl 100005 0 0 (l7).length))] [] (.gu ⟨some 29, .app 100005 54 11 120 26 28, none, []⟩ [(29, .one (.osl 100005 (0 + 1) 0 ((l7 ++ [a1])).length))] (W32 l7 a1) (fun hc => pe (eff_appO (c := Thing.cod) (g := 0) (l := l7) (a := a1) (by kernel_rfl) (by kernel_rfl) (by kernel_rfl) (by kernel_rfl) hc)) (.rd 1 (W62 l7 a1) [] (.thenN (.region0 (.rd 1 [(6, qb true)] [] (.thenN (.pr [0, 3, 5, 6, 7] [3, 100005] [(false, 5, 0, 100005, 54, 11)] [(0, .one (vw Thing.cod a0)), (3, qp 3 0), (5, .one (.osl 100005 0 0 ((l7 ++ [a1])).length)), (6, qb true), (7, qj i9)] [(3, some (.cells (Thing.cells a1))), (100005, some (.arr 54 Thing.cod.sz 0 ((l7 ++ [a1])).length (getOf Thing.cod (l7 ++ [a1]))))] ?_)))))))
     exact F88_j14_ok n a0 a1 i9 (F88_l10 n a0 a1 m_l10) m_l10 ih_l10 (l7 ++ [a1]) true
    ·refine Sim.skip (.thenN (.pr [0, 3, 5, 6, 7] [3, 100005] [(false, 5, 0, 100005, 54, 11)] (W17 a0 l7 b8 i9) (W7 a1 l7) ?_))
     exact F88_j14_ok n a0 a1 i9 (F88_l10 n a0 a1 m_l10) m_l10 ih_l10 l7 b8
   ·refine SimI.rd 9 ([(25, qb false)] ++ rp [24, 23, 22, 21, 20, 19, 18, 17] tz) [] (.thenN (.cf (.skip (.thenN (.pr [0, 3, 5, 6, 7] [3, 100005] [(false, 5, 0, 100005, 54, 11)] (W17 a0 l7 b8 i9) (W7 a1 l7) ?_)))))
    exact F88_j14_ok n a0 a1 i9 (F88_l10 n a0 a1 m_l10) m_l10 ih_l10 l7 b8
  ·refine Sim.exit (.thenX (.loopX (.blockX (.thenN (.seq (.sr 2 [(46, qb (!(b8))), (45, qb b8)] [] (.cd _ ?_ ?_)))))))
   ·exact Sim.region0 (.rn 3 [(49, .one (vw Thing.cod [a1])), (48, .agg (Thing.cells a1)), (47, .one (.osl 100005 0 0 (l7).length))] [] (.gu ⟨some 50, .app 100005 54 11 120 47 49, none, []⟩ [(50, .one (.osl 100005 (0 + 1) 0 ((l7 ++ [a1])).length))] (W32 l7 a1) (fun hc => pe (eff_appO (c := Thing.cod) (g := 0) (l := l7) (a := a1) (by kernel_rfl) (by kernel_rfl) (by kernel_rfl) (by kernel_rfl) hc)) (.rd 1 (W62 l7 a1) [] (.thenN (.sr 2 (rp [4, 51] (.one (.osl 100005 (0 + 1) 0 ((l7 ++ [a1])).length))) [] (.ret (.fin (out_of (os := []) (ress_cons (resOf_own (c := Thing.cod) (k := 100005) (g := (0 + 1)) (el := 54) (l := (l7 ++ [a1])) (by kernel_rfl) (by kernel_rfl) (by kernel_rfl)) (ress_nil)) (by kernel_rfl) rfl (by kernel_rfl)))))))))
   ·exact Sim.skip (.thenN (.sr 2 (rp [4, 51] (.one (.osl 100005 0 0 (l7).length))) [] (.ret (.fin (out_of (os := []) (ress_cons (resOf_own (c := Thing.cod) (k := 100005) (g := 0) (el := 54) (l := l7) (by kernel_rfl) (by kernel_rfl) (by kernel_rfl)) (ress_nil)) (by kernel_rfl) rfl (by kernel_rfl))))))
def F88 (n : Nat) (a0 : (List Thing)) (a1 : Thing) : Option (List Thing) :=
 F88_l10 n a0 a1 (n + 8) ([] : List Thing) false 0
theorem F88_ok (n : Nat) (a0 : (List Thing)) (a1 : Thing) : ∀ r, F88 n a0 a1 = some r → D 88 [.one (vw Thing.cod a0), .agg (Thing.cells a1)] [] = some (F88_e r) := by
 refine fn_to (D := D) (n := n + 8) (nt := 52) (rs := pc88_r) (c := p88c42) (L := [(0, .one (vw Thing.cod a0)), (1, .agg (Thing.cells a1))]) (M := []) (k := 0) rfl rfl rfl rfl rfl rfl rfl ?_
 unfold F88
 refine Sim.sr 2 [(4, .one (lnil)), (3, qp 3 0)] [(3, some (.cells (Thing.cells a1)))] (.sr 1 [(5, .one (lnil))] [] (.sr 1 [(6, qb false)] [] (.seq (.sr 1 [(7, qj 0)] [] (.block (.loop (.pr [0, 3, 5, 6, 7] [3, 100005] [(false, 5, 0, 100005, 54, 11)] [(0, .one (vw Thing.cod a0)), (3, qp 3 0), (5, .one (.osl 100005 0 0 (([] : List Thing)).length)), (6, qb false), (7, qj 0)] [(3, some (.cells (Thing.cells a1))), (100005, some (.arr 54 Thing.cod.sz 0 (([] : List Thing)).length (getOf Thing.cod ([] : List Thing))))] ?_)))))))
 exact F88_l10_ok n a0 a1 (n + 8) ([] : List Thing) false 0
def F89_e : Thing → PV × List Ob := fun r => (.agg (Thing.cells r), [])
def F89_u10 (n : Nat) (g9 : Thing) : Option Thing :=
  some g9
theorem F89_u10_ok (n : Nat) (a1 : Delta) (g9 : Thing) : SimL Try.prog D (n + 8) (n + 4) p89c22 W50 (W34 a1 g9) (F89_u10 n g9) (QB 0 (QT Try.prog D (n + 8) p89c28 (QF false pc89_r 0 F89_e))) := by
  unfold F89_u10
  exact SimL.succ (.seq (.seq (.rg W50 (W34 a1 g9) (.rd 2 [(16, qb false), (15, qj 4)] [] (.thenN (.cf (.exit (.thenX (.loopX (.blockX (.thenN (.sr 2 [(34, .agg (Thing.cells g9))] [(4, some (.cells (Thing.cells g9)))] (.ret .fn)))))))))))))
def F89_u8 (n : Nat) (a0 : Thing) (a1 : Delta) (g7 : Thing) : Option Thing :=
  if (bitsI .and .u8 (shrI .u8 a1.Mask 4) 1) != 0 then
   F89_u10 n (Thing.mk g7.ID g7.At (A4.mk g7.F.a0 g7.F.a1 g7.F.a2 a1.F.a3))
  else
   F89_u10 n g7
theorem F89_u8_ok (n : Nat) (a0 : Thing) (a1 : Delta) (g7 : Thing) : SimL Try.prog D (n + 8) (n + 5) p89c22 W51 (W34 a1 g7) (F89_u8 n a0 a1 g7) (QB 0 (QT Try.prog D (n + 8) p89c28 (QF false pc89_r 0 F89_e))) := by
  unfold F89_u8
  refine SimL.succ (.seq (.seq (.rg W51 (W34 a1 g7) (.rd 2 [(16, qb true), (15, qj 3)] [] (.thenN (.ct (.skip (.thenN (.seq (.block (.sr 8 [(26, qb ((bitsI .and .u8 (shrI .u8 a1.Mask 4) 1) != 0)), (25, .one (li .u8 (bitsI .and .u8 (shrI .u8 a1.Mask 4) 1))), (24, .one (li .u8 (shrI .u8 a1.Mask 4))), (23, .one (li .u64 4)), (22, qj 4), (21, qj 3), (20, .one (li .u8 a1.Mask)), (19, qp 3 1)] [] (.cd _ ?_ ?_))))))))))))
  ·refine Sim.region0 (.rd 8 [(33, qp 5 9), (32, qp 5 3), (31, .agg (W27 a1)), (30, qp 3 10), (29, qp 3 4), (28, qj 3), (27, qj 3)] [(5, some (.cells (W11 g7 a1)))] (.blockN (.thenN (.region0 (.rd 3 [(6, qj 4), (18, qj 4), (17, qj 3)] [] (.loopN (.pr [3, 4, 5, 6] [3, 4, 5] [] W50 [(3, some (.cells (Delta.cells a1))), (4, some (.cells W0)), (5, some (.cells (W11 g7 a1)))] ?_)))))))
   exact F89_u10_ok n a1 (Thing.mk g7.ID g7.At (A4.mk g7.F.a0 g7.F.a1 g7.F.a2 a1.F.a3))
  ·refine Sim.skip (.blockN (.thenN (.region0 (.rd 3 [(6, qj 4), (18, qj 4), (17, qj 3)] [] (.loopN (.pr [3, 4, 5, 6] [3, 4, 5] [] W50 (W34 a1 g7) ?_))))))
   exact F89_u10_ok n a1 g7
def F89_u6 (n : Nat) (a0 : Thing) (a1 : Delta) (g5 : Thing) : Option Thing :=
  if (bitsI .and .u8 (shrI .u8 a1.Mask 3) 1) != 0 then
   F89_u8 n a0 a1 (Thing.mk g5.ID g5.At (A4.mk g5.F.a0 g5.F.a1 a1.F.a2 g5.F.a3))
  else
   F89_u8 n a0 a1 g5
theorem F89_u6_ok (n : Nat) (a0 : Thing) (a1 : Delta) (g5 : Thing) : SimL Try.prog D (n + 8) (n + 6) p89c22 W52 (W34 a1 g5) (F89_u6 n a0 a1 g5) (QB 0 (QT Try.prog D (n + 8) p89c28 (QF false pc89_r 0 F89_e))) := by
  unfold F89_u6
  refine SimL.succ (.seq (.seq (.rg W52 (W34 a1 g5) (.rd 2 [(16, qb true), (15, qj 2)] [] (.thenN (.ct (.skip (.thenN (.seq (.block (.sr 8 [(26, qb ((bitsI .and .u8 (shrI .u8 a1.Mask 3) 1) != 0)), (25, .one (li .u8 (bitsI .and .u8 (shrI .u8 a1.Mask 3) 1))), (24, .one (li .u8 (shrI .u8 a1.Mask 3))), (23, .one (li .u64 3)), (22, qj 3), (21, qj 2), (20, .one (li .u8 a1.Mask)), (19, qp 3 1)] [] (.cd _ ?_ ?_))))))))))))
  ·refine Sim.region0 (.rd 8 [(33, qp 5 7), (32, qp 5 3), (31, .agg (W28 a1)), (30, qp 3 8), (29, qp 3 4), (28, qj 2), (27, qj 2)] [(5, some (.cells (W12 g5 a1)))] (.blockN (.thenN (.region0 (.rd 3 [(6, qj 3), (18, qj 3), (17, qj 2)] [] (.loopN (.pr [3, 4, 5, 6] [3, 4, 5] [] W51 [(3, some (.cells (Delta.cells a1))), (4, some (.cells W0)), (5, some (.cells (W12 g5 a1)))] ?_)))))))
   exact F89_u8_ok n a0 a1 (Thing.mk g5.ID g5.At (A4.mk g5.F.a0 g5.F.a1 a1.F.a2 g5.F.a3))
  ·refine Sim.skip (.blockN (.thenN (.region0 (.rd 3 [(6, qj 3), (18, qj 3), (17, qj 2)] [] (.loopN (.pr [3, 4, 5, 6] [3, 4, 5] [] W51 (W34 a1 g5) ?_))))))
   exact F89_u8_ok n a0 a1 g5
def F89_u4 (n : Nat) (a0 : Thing) (a1 : Delta) (g3 : Thing) : Option Thing :=
  if (bitsI .and .u8 (shrI .u8 a1.Mask 2) 1) != 0 then
   F89_u6 n a0 a1 (Thing.mk g3.ID g3.At (A4.mk g3.F.a0 a1.F.a1 g3.F.a2 g3.F.a3))
  else
   F89_u6 n a0 a1 g3
theorem F89_u4_ok (n : Nat) (a0 : Thing) (a1 : Delta) (g3 : Thing) : SimL Try.prog D (n + 8) (n + 7) p89c22 W53 (W34 a1 g3) (F89_u4 n a0 a1 g3) (QB 0 (QT Try.prog D (n + 8) p89c28 (QF false pc89_r 0 F89_e))) := by
  unfold F89_u4
  refine SimL.succ (.seq (.seq (.rg W53 (W34 a1 g3) (.rd 2 [(16, qb true), (15, qj 1)] [] (.thenN (.ct (.skip (.thenN (.seq (.block (.sr 8 [(26, qb ((bitsI .and .u8 (shrI .u8 a1.Mask 2) 1) != 0)), (25, .one (li .u8 (bitsI .and .u8 (shrI .u8 a1.Mask 2) 1))), (24, .one (li .u8 (shrI .u8 a1.Mask 2))), (23, .one (li .u64 2)), (22, qj 2), (21, qj 1), (20, .one (li .u8 a1.Mask)), (19, qp 3 1)] [] (.cd _ ?_ ?_))))))))))))
  ·refine Sim.region0 (.rd 8 [(33, qp 5 5), (32, qp 5 3), (31, .agg (W29 a1)), (30, qp 3 6), (29, qp 3 4), (28, qj 1), (27, qj 1)] [(5, some (.cells (W13 g3 a1)))] (.blockN (.thenN (.region0 (.rd 3 [(6, qj 2), (18, qj 2), (17, qj 1)] [] (.loopN (.pr [3, 4, 5, 6] [3, 4, 5] [] W52 [(3, some (.cells (Delta.cells a1))), (4, some (.cells W0)), (5, some (.cells (W13 g3 a1)))] ?_)))))))
   exact F89_u6_ok n a0 a1 (Thing.mk g3.ID g3.At (A4.mk g3.F.a0 a1.F.a1 g3.F.a2 g3.F.a3))
  ·refine Sim.skip (.blockN (.thenN (.region0 (.rd 3 [(6, qj 2), (18, qj 2), (17, qj 1)] [] (.loopN (.pr [3, 4, 5, 6] [3, 4, 5] [] W52 (W34 a1 g3) ?_))))))
   exact F89_u6_ok n a0 a1 g3
def F89_j2 (n : Nat) (a0 : Thing) (a1 : Delta) (g1 : Thing) : Option Thing :=
  if (bitsI .and .u8 (shrI .u8 a1.Mask 1) 1) != 0 then
   F89_u4 n a0 a1 (Thing.mk g1.ID g1.At (A4.mk a1.F.a0 g1.F.a1 g1.F.a2 g1.F.a3))
  else
   F89_u4 n a0 a1 g1
theorem F89_j2_ok (n : Nat) (a0 : Thing) (a1 : Delta) (g1 : Thing) : Sim Try.prog D (n + 8) p89c29 [(3, qp 3 0), (4, qp 4 0), (5, qp 5 0)] (W34 a1 g1) (F89_j2 n a0 a1 g1) (QF false pc89_r 0 F89_e) := by
  unfold F89_j2
  refine Sim.seq (.seq (.rs (.rd 1 [(6, qj 0)] [] (.thenN (.block (.loop (.succ (.seq (.seq (.rg [(3, qp 3 0), (4, qp 4 0), (5, qp 5 0), (6, qj 0)] (W34 a1 g1) (.rd 2 [(16, qb true), (15, qj 0)] [] (.thenN (.ct (.skip (.thenN (.seq (.block (.sr 8 [(26, qb ((bitsI .and .u8 (shrI .u8 a1.Mask 1) 1) != 0)), (25, .one (li .u8 (bitsI .and .u8 (shrI .u8 a1.Mask 1) 1))), (24, .one (li .u8 (shrI .u8 a1.Mask 1))), (23, .one (li .u64 1)), (22, qj 1), (21, qj 0), (20, .one (li .u8 a1.Mask)), (19, qp 3 1)] [] (.cd _ ?_ ?_)))))))))))))))))))
  ·refine Sim.region0 (.rd 8 [(33, qp 5 3), (32, qp 5 3), (31, .agg (W30 a1)), (30, qp 3 4), (29, qp 3 4), (28, qj 0), (27, qj 0)] [(5, some (.cells (W14 g1 a1)))] (.blockN (.thenN (.region0 (.rd 3 [(6, qj 1), (18, qj 1), (17, qj 0)] [] (.loopN (.pr [3, 4, 5, 6] [3, 4, 5] [] W53 [(3, some (.cells (Delta.cells a1))), (4, some (.cells W0)), (5, some (.cells (W14 g1 a1)))] ?_)))))))
   exact F89_u4_ok n a0 a1 (Thing.mk g1.ID g1.At (A4.mk a1.F.a0 g1.F.a1 g1.F.a2 g1.F.a3))
  ·refine Sim.skip (.blockN (.thenN (.region0 (.rd 3 [(6, qj 1), (18, qj 1), (17, qj 0)] [] (.loopN (.pr [3, 4, 5, 6] [3, 4, 5] [] W53 (W34 a1 g1) ?_))))))
   exact F89_u4_ok n a0 a1 g1
def F89 (n : Nat) (a0 : Thing) (a1 : Delta) : Option Thing :=
 if (bitsI .and .u8 a1.Mask 1) != 0 then
  F89_j2 n a0 a1 (Thing.mk a0.ID a1.At a0.F)
 else
  F89_j2 n a0 a1 a0
theorem F89_ok (n : Nat) (a0 : Thing) (a1 : Delta) : ∀ r, F89 n a0 a1 = some r → D 89 [.agg (Thing.cells a0), .agg (Delta.cells a1)] [] = some (F89_e r) := by
 refine fn_to (D := D) (n := n + 8) (nt := 35) (rs := pc89_r) (c := p89c32) (L := [(0, .agg (Thing.cells a0)), (1, .agg (Delta.cells a1))]) (M := []) (k := 0) rfl rfl rfl rfl rfl rfl rfl ?_
 unfold F89
 refine Sim.sr 3 [(4, qp 4 0), (3, qp 3 0), (2, qp 2 0)] [(4, some (.cells W0)), (3, some (.cells (Delta.cells a1))), (2, some (.cells (Thing.cells a0)))] (.sr 3 [(5, qp 5 0), (7, .agg (Thing.cells a0))] [(5, some (.cells (Thing.cells a0))), (5, some (.cells W0))] (.seq (.sr 4 [(11, qb ((bitsI .and .u8 a1.Mask 1) != 0)), (10, .one (li .u8 (bitsI .and .u8 a1.Mask 1))), (9, .one (li .u8 a1.Mask)), (8, qp 3 1)] [] (.cd _ ?_ ?_))))
 ·refine Sim.region0 (.rd 4 [(14, qp 5 1), (13, .agg [lj a1.At.X, lj a1.At.Y]), (12, qp 3 2)] [(5, some (.cells (W15 a0 a1)))] (.thenN (.pr [3, 4, 5] [2, 3, 4, 5] [] [(3, qp 3 0), (4, qp 4 0), (5, qp 5 0)] [(3, some (.cells (Delta.cells a1))), (4, some (.cells W0)), (5, some (.cells (W15 a0 a1)))] ?_)))
  exact F89_j2_ok n a0 a1 (Thing.mk a0.ID a1.At a0.F)
 ·refine Sim.skip (.thenN (.pr [3, 4, 5] [2, 3, 4, 5] [] [(3, qp 3 0), (4, qp 4 0), (5, qp 5 0)] (W34 a1 a0) ?_))
  exact F89_j2_ok n a0 a1 a0
def F90_e : (List Thing) → PV × List Ob := fun r => (.one (vw Thing.cod r), [])
def F90_l7 (n : Nat) (a0 : (List Thing)) (a1 : Int) : Nat → (List Thing) → Int → Option (List Thing)
 | 0, _, _ => none
 | m + 1, l5, i6 =>
  if decide (i6 < ((a0).length : Int)) then
   (ix a0 i6).bind fun (x8 : Thing) =>
   if x8.ID != a1 then
    (ix a0 i6).bind fun (x9 : Thing) =>
    if ((l5).length + 1) * 120 ≤ maxCells ∧ (l5).length + 1 ≤ maxCells then
     (F90_l7 n a0 a1 m) (l5 ++ [x9]) (IntKind.wrap .i64 (i6 + 1))
    else none
   else
    (F90_l7 n a0 a1 m) l5 (IntKind.wrap .i64 (i6 + 1))
  else
   some l5
theorem F90_l7_ok (n : Nat) (a0 : (List Thing)) (a1 : Int) : ∀ (m : Nat) (l5 : (List Thing)) (i6 : Int), SimL Try.prog D (n + 8) m p90c17 [(0, .one (vw Thing.cod a0)), (1, qj a1), (5, .one (.osl 100005 0 0 (l5).length)), (6, qj i6)] (W59 l5) (F90_l7 n a0 a1 m l5 i6) (QB 0 (QT Try.prog D (n + 8) p90c23 (QF false pc90_r 0 F90_e))) := by
 intro m_l7
 induction m_l7 with
 | zero => intro l5 i6; exact SimL.zero'  rfl
 | succ m_l7 ih_l7 =>
  intro l5 i6
  refine SimL.succ ?_
  unfold F90_l7
  refine Sim.seq (.seq (.rg [(0, .one (vw Thing.cod a0)), (1, qj a1), (5, .one (.osl 100005 0 0 (l5).length)), (6, qj i6)] (W59 l5) (.rd 4 [(10, qb (decide (i6 < ((a0).length : Int)))), (9, qj ((a0).length : Int)), (8, .one (vw Thing.cod a0)), (7, qj i6)] [] (.thenN (.cd _ ?_ ?_)))))
  ·refine Sim.skip (.thenN (.seq (.block (.st 2 [(14, qj i6), (13, .one (vw Thing.cod a0))] [] (.bn ⟨some 15, .iaddrS 11 13 14, none, []⟩ (fun x8 => [(15, .one (.eptr (Thing.cod.enc x8) 0))]) (fun x8 => []) (fun x8 hr => pe (ei (c := Thing.cod) (k := .i64) hr)) (fun x8 => ?_))))))
   refine SimI.rd 4 [(19, qb (x8.ID != a1)), (18, qj a1), (17, qj x8.ID), (16, .one (.eptr (Thing.cod.enc x8) 0))] [] (.thenN (.cd _ ?_ ?_))
   ·refine Sim.region0 (.rn 3 [(22, qj i6), (21, .one (vw Thing.cod a0)), (20, .one (.osl 100005 0 0 (l5).length))] [] (.bn ⟨some 23, .iaddrS 11 21 22, none, []⟩ (fun x9 => [(23, .one (.eptr (Thing.cod.enc x9) 0))]) (fun x9 => []) (fun x9 hr => pe (ei (c := Thing.cod) (k := .i64) hr)) (fun x9 => ?_)))
    refine SimI.rn 2 [(25, .one (vw Thing.cod [x9])), (24, .agg (Thing.cells x9))] [] (.gu ⟨some 26, .app 100005 54 11 120 20 25, none, []⟩ [(26, .one (.osl 100005 (0 + 1) 0 ((l5 ++ [x9])).length))] (W32 l5 x9) (fun hc => pe (eff_appO (c := Thing.cod) (g := 0) (l := l5) (a := x9) (by kernel_rfl) (by kernel_rfl) (by kernel_rfl) (by kernel_rfl) hc)) (.rd 1 (W62 l5 x9) [] (.blockN (.thenN (.region0 (.rd 3 (rp [6, 12] (qj (iw .i64 (i6 + 1))) ++ [(11, qj i6)]) [] (.loopN (.pr [0, 1, 5, 6] [100005] [(false, 5, 0, 100005, 54, 11)] [(0, .one (vw Thing.cod a0)), (1, qj a1), (5, .one (.osl 100005 0 0 ((l5 ++ [x9])).length)), (6, qj (iw .i64 (i6 + 1)))] [(100005, some (.arr 54 Thing.cod.sz 0 ((l5 ++ [x9])).length (getOf Thing.cod (l5 ++ [x9]))))] ?_))))))))
    exact ih_l7 (l5 ++ [x9]) (iw .i64 (i6 + 1))
   ·refine Sim.skip (.blockN (.thenN (.region0 (.rd 3 (rp [6, 12] (qj (iw .i64 (i6 + 1))) ++ [(11, qj i6)]) [] (.loopN (.pr [0, 1, 5, 6] [100005] [(false, 5, 0, 100005, 54, 11)] [(0, .one (vw Thing.cod a0)), (1, qj a1), (5, .one (.osl 100005 0 0 (l5).length)), (6, qj (iw .i64 (i6 + 1)))] (W59 l5) ?_))))))
    exact ih_l7 l5 (iw .i64 (i6 + 1))
  ·exact Sim.exit (.thenX (.loopX (.blockX (.thenN (.sr 2 (rp [4, 27] (.one (.osl 100005 0 0 (l5).length))) [] (.ret (.fin (out_of (os := []) (ress_cons (resOf_own (c := Thing.cod) (k := 100005) (g := 0) (el := 54) (l := l5) (by kernel_rfl) (by kernel_rfl) (by kernel_rfl)) (ress_nil)) (by kernel_rfl) rfl (by kernel_rfl)))))))))
def F90 (n : Nat) (a0 : (List Thing)) (a1 : Int) : Option (List Thing) :=
 F90_l7 n a0 a1 (n + 8) ([] : List Thing) 0
theorem F90_ok (n : Nat) (a0 : (List Thing)) (a1 : Int) : ∀ r, F90 n a0 a1 = some r → D 90 [.one (vw Thing.cod a0), .one (li .i64 a1)] [] = some (F90_e r) := by
 refine fn_to (D := D) (n := n + 8) (nt := 28) (rs := pc90_r) (c := p90c26) (L := [(0, .one (vw Thing.cod a0)), (1, qj a1)]) (M := []) (k := 0) rfl rfl rfl rfl rfl rfl rfl ?_
 unfold F90
 refine Sim.sr 1 [(4, .one (lnil))] [] (.sr 1 [(5, .one (lnil))] [] (.seq (.sr 1 [(6, qj 0)] [] (.block (.loop (.pr [0, 1, 5, 6] [100005] [(false, 5, 0, 100005, 54, 11)] [(0, .one (vw Thing.cod a0)), (1, qj a1), (5, .one (.osl 100005 0 0 (([] : List Thing)).length)), (6, qj 0)] [(100005, some (.arr 54 Thing.cod.sz 0 (([] : List Thing)).length (getOf Thing.cod ([] : List Thing))))] ?_))))))
 exact F90_l7_ok n a0 a1 (n + 8) ([] : List Thing) 0
def F76_e : ((List Thing) × Bool) → PV × List Ob := fun r => (.tup [.one (vw Thing.cod r.1), .one (lb r.2)], [])
def F76 (n : Nat) (a0 : (List Thing)) (a1 : Event) : Option ((List Thing) × Bool) :=
 (F87 n a0 a1.ID).bind fun (r1 : Int) =>
 (F48 n a1).bind fun (r2 : Bool) =>
 if !(r2) then
  some (a0, false)
 else
  if (decide ((0 : Int) ≤ r1)) == (a1.Kind == 1) then
   some (a0, false)
  else
   if a1.Kind == 1 then
    (F88 n a0 a1.Thing).bind fun (r3 : (List Thing)) =>
    some (r3, true)
   else
    if a1.Kind == 2 then
     (ix a0 r1).bind fun (x4 : Thing) =>
     (F89 n x4 a1.Delta).bind fun (r5 : Thing) =>
     (F88 n a0 r5).bind fun (r6 : (List Thing)) =>
     some (r6, true)
    else
     (F90 n a0 a1.ID).bind fun (r7 : (List Thing)) =>
     some (r7, true)
theorem F76_ok (n : Nat) (a0 : (List Thing)) (a1 : Event) : ∀ r, F76 n a0 a1 = some r → D 76 [.one (vw Thing.cod a0), .agg (Event.cells a1)] [] = some (F76_e r) := by
 refine fn_to (D := D) (n := n + 8) (nt := 46) (rs := pc76_r) (c := p76c32) (L := [(0, .one (vw Thing.cod a0)), (1, .agg (Event.cells a1))]) (M := []) (k := 0) rfl rfl rfl rfl rfl rfl rfl ?_
 unfold F76
 refine Sim.sr 3 [(5, qb false), (4, .one (lnil)), (3, qp 3 0)] [(3, some (.cells (Event.cells a1)))] (.st 3 [(9, qj a1.ID), (8, qp 3 1), (7, .one (vw Thing.cod a0))] [] (.cl 10 true [[(0, 11)], []] 87 [7, 9] none (fun r1 => qj r1) [.one (vw Thing.cod a0), qj a1.ID] (F87_ok _ _ _) (fun r1 => ?_)))
 refine SimI.rd 1 [(6, qj r1)] [] (.thenN (.seq (.st 1 [(11, .agg (Event.cells a1))] [] (.cl 12 true [[]] 48 [11] none (fun r2 => qb r2) [.agg (Event.cells a1)] (F48_ok _ _) (fun r2 => ?_)))))
 refine SimI.rn 2 [(14, qb (!(r2))), (13, qb (!(r2)))] [] (.sp 14 _ ?_ ?_)
 ·exact SimI.rd 7 ([(21, qb true)] ++ rp [20, 19, 18, 17, 16, 15] tz) [] (.thenN (.ct (.sr 3 ([(5, qb false)] ++ rp [4, 22] (.one (vw Thing.cod a0))) [] (.ret (.thenR .fn)))))
 ·refine SimI.rd 7 (rp [21, 20] (qb ((decide ((0 : Int) ≤ r1)) == (a1.Kind == 1))) ++ [(19, qb (a1.Kind == 1)), (18, qj a1.Kind), (17, qp 3 0), (16, qb (decide ((0 : Int) ≤ r1))), (15, qj r1)]) [] (.thenN (.cd _ ?_ ?_))
  ·exact Sim.sr 3 ([(5, qb false)] ++ rp [4, 22] (.one (vw Thing.cod a0))) [] (.ret (.thenR .fn))
  ·refine Sim.skip (.thenN (.seq (.sr 2 [(24, qj a1.Kind), (23, qp 3 0)] [] (.block (.sr 2 (rp [25, 26] (qb (a1.Kind == 1))) [] (.cd _ ?_ ?_))))))
   ·refine Sim.st 3 [(29, .agg (Thing.cells a1.Thing)), (28, qp 3 2), (27, .one (vw Thing.cod a0))] [] (.cl 30 true [[(0, 11)], []] 88 [27, 29] none (fun r3 => .one (vw Thing.cod r3)) [.one (vw Thing.cod a0), .agg (Thing.cells a1.Thing)] (F88_ok _ _ _) (fun r3 => ?_))
    exact SimI.rd 2 [(5, qb true), (4, .one (vw Thing.cod r3))] [] (.thenN (.ret (.blockR (.thenR .fn))))
   ·refine Sim.sr 2 (rp [31, 32] (qb (a1.Kind == 2))) [] (.cd _ ?_ ?_)
    ·refine Sim.st 3 ([(35, qj r1)] ++ rp [34, 33] (.one (vw Thing.cod a0))) [] (.bn ⟨some 36, .iaddrS 11 34 35, none, [(34, .imm), (35, .imm)]⟩ (fun x4 => [(36, .one (.eptr (Thing.cod.enc x4) 0))]) (fun x4 => []) (fun x4 hr => pe (ei (c := Thing.cod) (k := .i64) hr)) (fun x4 => ?_))
     refine SimI.rn 3 [(39, .agg (Delta.cells a1.Delta)), (38, qp 3 13), (37, .agg (Thing.cells x4))] [] (.cm 40 false [[], []] 89 [37, 39] none [(37, .imm), (39, .imm)] (F89_ok _ _ _) (fun r5 => ?_))
     refine SimI.cm 41 false [[(0, 11)], []] 88 [33, 40] none [(33, .imm), (40, .imm)] (F88_ok _ _ _) (fun r6 => ?_)
     exact SimI.rd 2 [(5, qb true), (4, .one (vw Thing.cod r6))] [] (.thenN (.ret (.blockR (.thenR .fn))))
    ·refine Sim.skip (.blockN (.thenN (.st 3 [(44, qj a1.ID), (43, qp 3 1), (42, .one (vw Thing.cod a0))] [] (.cl 45 true [[(0, 11)], []] 90 [42, 44] none (fun r7 => .one (vw Thing.cod r7)) [.one (vw Thing.cod a0), qj a1.ID] (F90_ok _ _ _) (fun r7 => ?_)))))
     exact SimI.rd 2 [(5, qb true), (4, .one (vw Thing.cod r7))] [] (.thenN (.ret .fn))
def F61_e : ((List Thing) × Bool) → PV × List Ob := fun r => (.tup [.one (vw Thing.cod r.1), .one (lb r.2)], [])
def F61_l7 (n : Nat) (a0 : (List Thing)) (a1 : (List Event)) : Nat → (List Thing) → Int → Option ((List Thing) × Bool)
 | 0, _, _ => none
 | m + 1, l5, i6 =>
  if decide (i6 < ((a1).length : Int)) then
   (ix a1 i6).bind fun (x8 : Event) =>
   (F76 n l5 x8).bind fun (r9 : ((List Thing) × Bool)) =>
   if !(r9.2) then
    some (a0, false)
   else
    (F61_l7 n a0 a1 m) r9.1 (IntKind.wrap .i64 (i6 + 1))
  else
   some (l5, true)
theorem F61_l7_ok (n : Nat) (a0 : (List Thing)) (a1 : (List Event)) : ∀ (m : Nat) (l5 : (List Thing)) (i6 : Int), SimL Try.prog D (n + 8) m p61c23 [(0, .one (vw Thing.cod a0)), (1, .one (vw Event.cod a1)), (6, .one (vw Thing.cod l5)), (7, qj i6)] [] (F61_l7 n a0 a1 m l5 i6) (QB 0 (QT Try.prog D (n + 8) p61c29 (QF false pc61_r 0 F61_e))) := by
 intro m_l7
 induction m_l7 with
 | zero => intro l5 i6; exact SimL.zero'  rfl
 | succ m_l7 ih_l7 =>
  intro l5 i6
  refine SimL.succ ?_
  unfold F61_l7
  refine Sim.seq (.seq (.rg [(0, .one (vw Thing.cod a0)), (1, .one (vw Event.cod a1)), (6, .one (vw Thing.cod l5)), (7, qj i6)] [] (.rd 4 [(14, qb (decide (i6 < ((a1).length : Int)))), (13, qj ((a1).length : Int)), (12, .one (vw Event.cod a1)), (11, qj i6)] [] (.thenN (.cd _ ?_ ?_)))))
  ·refine Sim.skip (.thenN (.seq (.block (.st 3 [(20, qj i6), (19, .one (vw Event.cod a1)), (18, .one (vw Thing.cod l5))] [] (.bn ⟨some 21, .iaddrS 25 19 20, none, []⟩ (fun x8 => [(21, .one (.eptr (Event.cod.enc x8) 0))]) (fun x8 => []) (fun x8 hr => pe (ei (c := Event.cod) (k := .i64) hr)) (fun x8 => ?_))))))
   refine SimI.rn 1 [(22, .agg (Event.cells x8))] [] (.cl 23 true [[(0, 11)], []] 76 [18, 22] none (fun r9 => .tup (W54 r9)) [.one (vw Thing.cod l5), .agg (Event.cells x8)] (F76_ok _ _ _) (fun r9 => ?_))
   refine SimI.rd 5 [(9, qb r9.2), (8, .one (vw Thing.cod r9.1)), (25, qb r9.2), (24, .one (vw Thing.cod r9.1)), (17, .tup (W54 r9))] [] (.thenN (.seq (.sr 2 [(27, qb (!(r9.2))), (26, qb r9.2)] [] (.cd _ ?_ ?_))))
   ·exact Sim.sr 3 ([(5, qb false)] ++ rp [4, 28] (.one (vw Thing.cod a0))) [] (.ret (.thenR (.blockR (.thenR (.loopR (.blockR (.thenR .fn)))))))
   ·refine Sim.skip (.thenN (.region0 (.rd 2 (rp [6, 29] (.one (vw Thing.cod r9.1))) [] (.blockN (.thenN (.region0 (.rd 3 (rp [7, 16] (qj (iw .i64 (i6 + 1))) ++ [(15, qj i6)]) [] (.loopN (.pr [0, 1, 6, 7] [] [] [(0, .one (vw Thing.cod a0)), (1, .one (vw Event.cod a1)), (6, .one (vw Thing.cod r9.1)), (7, qj (iw .i64 (i6 + 1)))] [] ?_)))))))))
    exact ih_l7 r9.1 (iw .i64 (i6 + 1))
  ·exact Sim.exit (.thenX (.loopX (.blockX (.thenN (.sr 3 ([(5, qb true)] ++ rp [4, 30] (.one (vw Thing.cod l5))) [] (.ret .fn))))))
def F61 (n : Nat) (a0 : (List Thing)) (a1 : (List Event)) : Option ((List Thing) × Bool) :=
 F61_l7 n a0 a1 (n + 8) a0 0
theorem F61_ok (n : Nat) (a0 : (List Thing)) (a1 : (List Event)) : ∀ r, F61 n a0 a1 = some r → D 61 [.one (vw Thing.cod a0), .one (vw Event.cod a1)] [] = some (F61_e r) := by
 refine fn_to (D := D) (n := n + 8) (nt := 31) (rs := pc61_r) (c := p61c32) (L := [(0, .one (vw Thing.cod a0)), (1, .one (vw Event.cod a1))]) (M := []) (k := 0) rfl rfl rfl rfl rfl rfl rfl ?_
 unfold F61
 refine Sim.sr 2 [(5, qb false), (4, .one (lnil))] [] (.sr 2 (rp [6, 10] (.one (vw Thing.cod a0))) [] (.seq (.sr 1 [(7, qj 0)] [] (.block (.loop (.pr [0, 1, 6, 7] [] [] [(0, .one (vw Thing.cod a0)), (1, .one (vw Event.cod a1)), (6, .one (vw Thing.cod a0)), (7, qj 0)] [] ?_))))))
 exact F61_l7_ok n a0 a1 (n + 8) a0 0
def F49_e : (Bool × View_vedetteref19) → PV × List Ob := fun r => (.one (lb r.1), [.cells [li .i64 r.2.Client, li .i64 r.2.Session, li .i64 r.2.N, li .i64 r.2.Start, li .i64 r.2.Beat, vw Thing.cod r.2.L, .osl 1000001 1 0 (r.2.Log).length, .osl 1000002 1 0 (r.2.Wait).length], .arr 58 Event.cod.sz 1 (r.2.Log).length (getOf Event.cod r.2.Log), .arr 32 Frame.cod.sz 1 (r.2.Wait).length (getOf Frame.cod r.2.Wait)])
def F49_j66 (n : Nat) (i50 : Int) (r60 : (Int × View_vedetteref19)) (rec_l59 : Int → Int → Int → Int → Int → Int → (List Thing) → (List Event) → (List Frame) → Option (Bool × View_vedetteref19)) (l64 : (List Thing)) (l65 : (List Event)) : Option (Bool × View_vedetteref19) :=
  if 0 ≤ (0 : Int) ∧ (0 : Int) ≤ r60.1 ∧ r60.1 ≤ ((r60.2.Wait).length : Int) then
   if (0 + 0) + (r60.1.toNat - 0) ≤ (r60.2.Wait).length ∧ (((r60.2.Wait).drop (0 + 0)).take (r60.1.toNat - 0)).length * 64 ≤ maxCells ∧ (((r60.2.Wait).drop (0 + 0)).take (r60.1.toNat - 0)).length ≤ maxCells then
    if 0 ≤ (IntKind.wrap .i64 (r60.1 + 1) : Int) ∧ (IntKind.wrap .i64 (r60.1 + 1) : Int) ≤ ((r60.2.Wait).length : Int) ∧ ((r60.2.Wait).length : Int) ≤ ((r60.2.Wait).length : Int) then
     if (0 + (IntKind.wrap .i64 (r60.1 + 1)).toNat) + ((r60.2.Wait).length - (IntKind.wrap .i64 (r60.1 + 1)).toNat) ≤ (r60.2.Wait).length ∧ (((((r60.2.Wait).drop (0 + 0)).take (r60.1.toNat - 0))).length + (((r60.2.Wait).drop (0 + (IntKind.wrap .i64 (r60.1 + 1)).toNat)).take ((r60.2.Wait).length - (IntKind.wrap .i64 (r60.1 + 1)).toNat)).length) * 64 ≤ maxCells ∧ ((((r60.2.Wait).drop (0 + 0)).take (r60.1.toNat - 0))).length + (((r60.2.Wait).drop (0 + (IntKind.wrap .i64 (r60.1 + 1)).toNat)).take ((r60.2.Wait).length - (IntKind.wrap .i64 (r60.1 + 1)).toNat)).length ≤ maxCells then
      rec_l59 (IntKind.wrap .i64 (i50 + 1)) r60.2.Client r60.2.Session r60.2.N r60.2.Start r60.2.Beat l64 l65 ((((r60.2.Wait).drop (0 + 0)).take (r60.1.toNat - 0)) ++ ((r60.2.Wait).drop (0 + (IntKind.wrap .i64 (r60.1 + 1)).toNat)).take ((r60.2.Wait).length - (IntKind.wrap .i64 (r60.1 + 1)).toNat))
     else none
    else none
   else none
  else none
theorem F49_j66_ok (n : Nat) (i1 i50 : Int) (r60 : (Int × View_vedetteref19)) (rec_l59 : Int → Int → Int → Int → Int → Int → (List Thing) → (List Event) → (List Frame) → Option (Bool × View_vedetteref19)) (m_l59 : Nat) (ih_l59 : ∀ (i50 i51 i52 i53 i54 i55 : Int) (l56 : (List Thing)) (l57 : (List Event)) (l58 : (List Frame)), SimL Try.prog D (n + 8) m_l59 p49c50 [(0, qp 1000000 0), (3, qj i1), (5, qj i50)] (W3 i51 i52 i53 i54 i55 l56 l57 l58) (rec_l59 i50 i51 i52 i53 i54 i55 l56 l57 l58) (QB 2 (QT Try.prog D (n + 8) p49c58 (QF false pc49_r 3 F49_e)))) (l64 : (List Thing)) (l65 : (List Event)) : Sim Try.prog D (n + 8) p49c43 [(0, qp 1000000 0), (3, qj i1), (5, qj i50), (6, qj r60.1)] [(1000000, some (.cells [lj r60.2.Client, lj r60.2.Session, lj r60.2.N, lj r60.2.Start, lj r60.2.Beat, vw Thing.cod l64, .osl 1000001 1 0 (l65).length, .osl 1000002 1 0 (r60.2.Wait).length])), (1000001, some (.arr 58 Event.cod.sz 1 (l65).length (getOf Event.cod l65))), (1000002, some (.arr 32 Frame.cod.sz 1 (r60.2.Wait).length (getOf Frame.cod r60.2.Wait)))] (F49_j66 n i50 r60 rec_l59 l64 l65) (QB 3 (QT Try.prog D (n + 8) p49c48 (QL Try.prog D (n + 8) m_l59 p49c50 (QB 2 (QT Try.prog D (n + 8) p49c58 (QF false pc49_r 3 F49_e)))))) := by
  unfold F49_j66
  refine Sim.rs (.rn 6 ([(90, qj r60.1), (89, .one (.osl 1000002 1 0 (r60.2.Wait).length)), (88, qp 1000000 7)] ++ rp [87, 86, 85] (qp 1000000 0)) [] (.gu ⟨some 91, .slc 6 89 none (some 90), none, [(89, Hint.obj 1000002), (90, .imm)]⟩ [(91, .one (.osl 1000002 1 (0 + 0) (r60.1.toNat - 0)))] [] (fun hc => pe (eff_slcO (c := Frame.cod) (l := r60.2.Wait) (key := 1000002) (g := 1) (el := 32) (a := 0) (b := r60.1.toNat) (by kernel_rfl) (by kernel_rfl) (by kernel_rfl) (bound_some (k := .i64) (by kernel_rfl) (Int.le_trans hc.1 hc.2.1)) (by kernel_rfl) (by omega) (by omega))) (.gu ⟨some 92, .app 100092 32 6 64 (Operand.const (Value.slice none 0 0)) 91, none, [(91, Hint.obj 1000002)]⟩ [(92, .one (.osl 100092 0 0 ((((r60.2.Wait).drop (0 + 0)).take (r60.1.toNat - 0))).length))] [(100092, some (.arr 32 Frame.cod.sz 0 ((((r60.2.Wait).drop (0 + 0)).take (r60.1.toNat - 0))).length (getOf Frame.cod (((r60.2.Wait).drop (0 + 0)).take (r60.1.toNat - 0)))))] (fun hc => pe (eff_appNS (c := Frame.cod) (l := r60.2.Wait) (off := (0 + 0)) (m := (r60.1.toNat - 0)) (k2 := 1000002) (g2 := 1) (el2 := 32) (by kernel_rfl) (by kernel_rfl) (by kernel_rfl) (by kernel_rfl) (by kernel_rfl) (by kernel_rfl) hc)) (.rn 6 [(98, qj (IntKind.wrap .i64 (r60.1 + 1))), (97, qj r60.1), (96, .one (.osl 1000002 1 0 (r60.2.Wait).length)), (95, qp 1000000 7), (94, qp 1000000 0), (93, qp 1000000 0)] [] (.gu ⟨some 99, .slc 6 96 (some 98) none, none, [(96, Hint.obj 1000002), (98, .imm)]⟩ [(99, .one (.osl 1000002 1 (0 + (IntKind.wrap .i64 (r60.1 + 1)).toNat) ((r60.2.Wait).length - (IntKind.wrap .i64 (r60.1 + 1)).toNat)))] [] (fun hc => pe (eff_slcO (c := Frame.cod) (l := r60.2.Wait) (key := 1000002) (g := 1) (el := 32) (a := (IntKind.wrap .i64 (r60.1 + 1)).toNat) (b := (r60.2.Wait).length) (by kernel_rfl) (by kernel_rfl) (bound_some (k := .i64) (by kernel_rfl) hc.1) (by kernel_rfl) (by kernel_rfl) (by omega) (by omega))) (.gu ⟨some 100, .appT 1000002 32 6 64 92 99, none, [(92, Hint.obj 100092), (99, Hint.obj 1000002)]⟩ [(100, .one (.osl 1000002 (1 + 1) 0 (((((r60.2.Wait).drop (0 + 0)).take (r60.1.toNat - 0)) ++ ((r60.2.Wait).drop (0 + (IntKind.wrap .i64 (r60.1 + 1)).toNat)).take ((r60.2.Wait).length - (IntKind.wrap .i64 (r60.1 + 1)).toNat))).length))] [(1000002, some (.arr 32 Frame.cod.sz (1 + 1) (((((r60.2.Wait).drop (0 + 0)).take (r60.1.toNat - 0)) ++ ((r60.2.Wait).drop (0 + (IntKind.wrap .i64 (r60.1 + 1)).toNat)).take ((r60.2.Wait).length - (IntKind.wrap .i64 (r60.1 + 1)).toNat))).length (getOf Frame.cod ((((r60.2.Wait).drop (0 + 0)).take (r60.1.toNat - 0)) ++ ((r60.2.Wait).drop (0 + (IntKind.wrap .i64 (r60.1 + 1)).toNat)).take ((r60.2.Wait).length - (IntKind.wrap .i64 (r60.1 + 1)).toNat))))), (100092, some (.arr 32 Frame.cod.sz (0 + 1 + 1) (([] : List Frame)).length (getOf Frame.cod ([] : List Frame))))] (fun hc => pe (eff_appT (c := Frame.cod) (k := 100092) (to := 1000002) (g := 0) (g2 := 1) (off := (0 + (IntKind.wrap .i64 (r60.1 + 1)).toNat)) (m := ((r60.2.Wait).length - (IntKind.wrap .i64 (r60.1 + 1)).toNat)) (l := (((r60.2.Wait).drop (0 + 0)).take (r60.1.toNat - 0))) (l2 := r60.2.Wait) (by kernel_rfl) (by kernel_rfl) (by kernel_rfl) (by kernel_rfl) (by kernel_rfl) (by kernel_rfl) (by kernel_rfl) hc)) (.rd 3 [(102, qp 1000000 7), (101, qp 1000000 0)] [(1000000, some (.cells [lj r60.2.Client, lj r60.2.Session, lj r60.2.N, lj r60.2.Start, lj r60.2.Beat, vw Thing.cod l64, .osl 1000001 1 0 (l65).length, .osl 1000002 (1 + 1) 0 (((((r60.2.Wait).drop (0 + 0)).take (r60.1.toNat - 0)) ++ ((r60.2.Wait).drop (0 + (IntKind.wrap .i64 (r60.1 + 1)).toNat)).take ((r60.2.Wait).length - (IntKind.wrap .i64 (r60.1 + 1)).toNat))).length]))] (.blockN (.thenN (.region0 (.rd 3 (rp [5, 43] (qj (IntKind.wrap .i64 (i50 + 1))) ++ [(42, qj i50)]) [] (.loopN (.pr [0, 3, 5] [100092, 1000000, 1000001, 1000002] [] [(0, qp 1000000 0), (3, qj i1), (5, qj (IntKind.wrap .i64 (i50 + 1)))] [(1000000, some (.cells [lj r60.2.Client, lj r60.2.Session, lj r60.2.N, lj r60.2.Start, lj r60.2.Beat, vw Thing.cod l64, .osl 1000001 1 0 (l65).length, .osl 1000002 1 0 (((((r60.2.Wait).drop (0 + 0)).take (r60.1.toNat - 0)) ++ ((r60.2.Wait).drop (0 + (IntKind.wrap .i64 (r60.1 + 1)).toNat)).take ((r60.2.Wait).length - (IntKind.wrap .i64 (r60.1 + 1)).toNat))).length])), (1000001, some (.arr 58 Event.cod.sz 1 (l65).length (getOf Event.cod l65))), (1000002, some (.arr 32 Frame.cod.sz 1 (((((r60.2.Wait).drop (0 + 0)).take (r60.1.toNat - 0)) ++ ((r60.2.Wait).drop (0 + (IntKind.wrap .i64 (r60.1 + 1)).toNat)).take ((r60.2.Wait).length - (IntKind.wrap .i64 (r60.1 + 1)).toNat))).length (getOf Frame.cod ((((r60.2.Wait).drop (0 + 0)).take (r60.1.toNat - 0)) ++ ((r60.2.Wait).drop (0 + (IntKind.wrap .i64 (r60.1 + 1)).toNat)).take ((r60.2.Wait).length - (IntKind.wrap .i64 (r60.1 + 1)).toNat)))))] ?_)))))))))))))
  exact ih_l59 (iw .i64 (i50 + 1)) r60.2.Client r60.2.Session r60.2.N r60.2.Start r60.2.Beat l64 l65 ((((r60.2.Wait).drop (0 + 0)).take (r60.1.toNat - 0)) ++ ((r60.2.Wait).drop (0 + (iw .i64 (r60.1 + 1)).toNat)).take ((r60.2.Wait).length - (iw .i64 (r60.1 + 1)).toNat))
def F49_l59 (n : Nat) (i1 : Int) : Nat → Int → Int → Int → Int → Int → Int → (List Thing) → (List Event) → (List Frame) → Option (Bool × View_vedetteref19)
 | 0, _, _, _, _, _, _, _, _, _ => none
 | m + 1, i50, i51, i52, i53, i54, i55, l56, l57, l58 =>
  if decide (i50 < i53) then
   (F47 n (View_vedetteref19.mk i51 i52 i53 i54 i55 l56 l57 l58) i50 i1).bind fun (r60 : (Int × View_vedetteref19)) =>
   (ix r60.2.Wait r60.1).bind fun (x61 : Frame) =>
   (F61 n r60.2.L x61.Events).bind fun (r62 : ((List Thing) × Bool)) =>
   if r62.2 then
    (ix r60.2.Wait r60.1).bind fun (x63 : Frame) =>
    if ((r60.2.Log).length + (x63.Events).length) * 264 ≤ maxCells ∧ (r60.2.Log).length + (x63.Events).length ≤ maxCells then
     F49_j66 n i50 r60 (F49_l59 n i1 m) r62.1 (r60.2.Log ++ x63.Events)
    else none
   else
    F49_j66 n i50 r60 (F49_l59 n i1 m) r60.2.L r60.2.Log
  else
   some (true, (View_vedetteref19.mk i51 i52 i53 i54 i1 l56 l57 l58))
theorem F49_l59_ok (n : Nat) (i1 : Int) : ∀ (m : Nat) (i50 i51 i52 i53 i54 i55 : Int) (l56 : (List Thing)) (l57 : (List Event)) (l58 : (List Frame)), SimL Try.prog D (n + 8) m p49c50 [(0, qp 1000000 0), (3, qj i1), (5, qj i50)] (W3 i51 i52 i53 i54 i55 l56 l57 l58) (F49_l59 n i1 m i50 i51 i52 i53 i54 i55 l56 l57 l58) (QB 2 (QT Try.prog D (n + 8) p49c58 (QF false pc49_r 3 F49_e))) := by
 intro m_l59
 induction m_l59 with
 | zero => intro i50 i51 i52 i53 i54 i55 l56 l57 l58; exact SimL.zero'  rfl
 | succ m_l59 ih_l59 =>
  intro i50 i51 i52 i53 i54 i55 l56 l57 l58
  refine SimL.succ ?_
  unfold F49_l59
  refine Sim.seq (.seq (.rg [(0, qp 1000000 0), (3, qj i1), (5, qj i50)] (W3 i51 i52 i53 i54 i55 l56 l57 l58) (.rd 6 [(41, qb (decide (i50 < i53))), (40, qj i53), (39, qp 1000000 2), (38, qp 1000000 0), (37, qp 1000000 0), (36, qj i50)] [] (.thenN (.cd _ ?_ ?_)))))
  ·refine Sim.skip (.thenN (.seq (.block (.st 3 [(46, qj i1), (45, qj i50), (44, qp 1000000 0)] [] (.bn ⟨some 47, .gcall false false W6 [[], [], []] 47 [44, 45, 46], none, []⟩ (fun r60 => [(47, qj r60.1)]) (fun r60 => (W18 r60)) (fun r60 hr => pe (gq (ks := W6) (ARGS := [qp 1000000 0, qj i50, qj i1]) (F47_ok _ _ _ _ _ hr))) (fun r60 => ?_))))))
   refine SimI.rd 1 [(6, qj r60.1)] [] (.thenN (.st 9 [(57, qj r60.1), (56, .one (.osl 1000002 (1 + 1) 0 (r60.2.Wait).length)), (55, qp 1000000 7), (54, qp 1000000 0), (53, qp 1000000 0), (52, .one (vw Thing.cod r60.2.L)), (51, qp 1000000 5), (50, qp 1000000 0), (49, qp 1000000 0)] [] (.bindh (og := ix r60.2.Wait r60.1) ⟨some 58, .iaddrS 6 56 57, none, [(56, Hint.obj 1000002), (57, .imm)]⟩ (fun x61 => [(58, .one (.aptr 1000002 (1 + 1) ((r60.1).toNat) 0))]) (fun x61 => []) (by kernel_rfl) (fun x61 hr => pe (eff_idxO (c := Frame.cod) (l := r60.2.Wait) (g := (1 + 1)) (el := 32) (k := .i64) (n := r60.1) (by kernel_rfl) (by kernel_rfl) (by kernel_rfl) (by kernel_rfl) hr)) (fun x61 hx61 => ?_))))
   refine SimI.rn 1 [(59, .one (.aptr 1000002 (1 + 1) ((r60.1).toNat) 5))] [] (.se ⟨some 60, .load false 1 59, none, [(59, Hint.obj 1000002)]⟩ [(60, .one (vw Event.cod x61.Events))] [] (pe (eff_loadO (c := Frame.cod) (a := x61) (l := r60.2.Wait) (key := 1000002) (g := (1 + 1)) (el := 32) (off := 5) (i := (r60.1).toNat) (by kernel_rfl) (by kernel_rfl) (ix_some hx61).2.2.2 (by kernel_rfl))) (.cm 61 false [[(0, 11)], [(0, 25)]] 61 [52, 60] none [(52, .imm), (60, .imm)] (F61_ok _ _ _) (fun r62 => ?_)))
   refine SimI.rd 5 [(8, qb r62.2), (7, .one (vw Thing.cod r62.1)), (63, qb r62.2), (62, .one (vw Thing.cod r62.1)), (48, .tup (W54 r62))] [] (.thenN (.seq (.sr 1 [(64, qb r62.2)] [] (.cd _ ?_ ?_))))
   ·refine Sim.sr 5 [(68, qp 1000000 5), (67, qp 1000000 0), (66, .one (vw Thing.cod r62.1)), (65, qp 1000000 0)] [(1000000, some (.cells [lj r60.2.Client, lj r60.2.Session, lj r60.2.N, lj r60.2.Start, lj r60.2.Beat, vw Thing.cod r62.1, .osl 1000001 (1 + 1) 0 (r60.2.Log).length, .osl 1000002 (1 + 1) 0 (r60.2.Wait).length]))] (.region0 (.rn 10 ([(78, qj r60.1), (77, .one (.osl 1000002 (1 + 1) 0 (r60.2.Wait).length)), (76, qp 1000000 7), (75, qp 1000000 0), (74, qp 1000000 0), (73, .one (.osl 1000001 (1 + 1) 0 (r60.2.Log).length)), (72, qp 1000000 6)] ++ rp [71, 70, 69] (qp 1000000 0)) [] (.bindh (og := ix r60.2.Wait r60.1) ⟨some 79, .iaddrS 6 77 78, none, [(77, Hint.obj 1000002), (78, .imm)]⟩ (fun x63 => [(79, .one (.aptr 1000002 (1 + 1) ((r60.1).toNat) 0))]) (fun x63 => []) (by kernel_rfl) (fun x63 hr => pe (eff_idxO (c := Frame.cod) (l := r60.2.Wait) (g := (1 + 1)) (el := 32) (k := .i64) (n := r60.1) (by kernel_rfl) (by kernel_rfl) (by kernel_rfl) (by kernel_rfl) hr)) (fun x63 hx63 => ?_))))
    refine SimI.rn 1 [(80, .one (.aptr 1000002 (1 + 1) ((r60.1).toNat) 5))] [] (.se ⟨some 81, .load false 1 80, none, [(80, Hint.obj 1000002)]⟩ [(81, .one (vw Event.cod x63.Events))] [] (pe (eff_loadO (c := Frame.cod) (a := x63) (l := r60.2.Wait) (key := 1000002) (g := (1 + 1)) (el := 32) (off := 5) (i := (r60.1).toNat) (by kernel_rfl) (by kernel_rfl) (ix_some hx63).2.2.2 (by kernel_rfl))) (.gu ⟨some 82, .app 100073 58 25 264 73 81, none, [(73, Hint.obj 1000001), (81, .imm)]⟩ [(82, .one (.osl 1000001 ((1 + 1) + 1) 0 ((r60.2.Log ++ x63.Events)).length))] [(1000001, some (.arr 58 Event.cod.sz ((1 + 1) + 1) ((r60.2.Log ++ x63.Events)).length (getOf Event.cod (r60.2.Log ++ x63.Events))))] (fun hc => pe (eff_appOL (c := Event.cod) (g := (1 + 1)) (l := r60.2.Log) (m := x63.Events) (by kernel_rfl) (by kernel_rfl) (by kernel_rfl) (by kernel_rfl) hc)) (.rd 3 [(84, qp 1000000 6), (83, qp 1000000 0)] [(1000000, some (.cells [lj r60.2.Client, lj r60.2.Session, lj r60.2.N, lj r60.2.Start, lj r60.2.Beat, vw Thing.cod r62.1, .osl 1000001 ((1 + 1) + 1) 0 ((r60.2.Log ++ x63.Events)).length, .osl 1000002 (1 + 1) 0 (r60.2.Wait).length]))] (.thenN (.pr [0, 3, 5, 6] W6 [] [(0, qp 1000000 0), (3, qj i1), (5, qj i50), (6, qj r60.1)] [(1000000, some (.cells [lj r60.2.Client, lj r60.2.Session, lj r60.2.N, lj r60.2.Start, lj r60.2.Beat, vw Thing.cod r62.1, .osl 1000001 1 0 ((r60.2.Log ++ x63.Events)).length, .osl 1000002 1 0 (r60.2.Wait).length])), (1000001, some (.arr 58 Event.cod.sz 1 ((r60.2.Log ++ x63.Events)).length (getOf Event.cod (r60.2.Log ++ x63.Events)))), (1000002, some (.arr 32 Frame.cod.sz 1 (r60.2.Wait).length (getOf Frame.cod r60.2.Wait)))] ?_)))))
    exact F49_j66_ok n i1 i50 r60 (F49_l59 n i1 m_l59) m_l59 ih_l59 r62.1 (r60.2.Log ++ x63.Events)
   ·refine Sim.skip (.thenN (.pr [0, 3, 5, 6] W6 [] [(0, qp 1000000 0), (3, qj i1), (5, qj i50), (6, qj r60.1)] (W46 r60) ?_))
    exact F49_j66_ok n i1 i50 r60 (F49_l59 n i1 m_l59) m_l59 ih_l59 r60.2.L r60.2.Log
  ·exact Sim.exit (.thenX (.loopX (.blockX (.thenN (.sr 5 [(106, qp 1000000 4), (105, qp 1000000 0), (104, qj i1), (103, qp 1000000 0)] [(1000000, some (.cells (W35 i51 i52 i53 i54 i1 l56 l57 l58)))] (.sr 1 [(2, qb true)] [] (.ret .fn)))))))
def F49_l30 (n : Nat) (i1 : Int) : Nat → Int → Int → Int → Int → Int → Int → (List Thing) → (List Event) → (List Frame) → Option (Bool × View_vedetteref19)
 | 0, _, _, _, _, _, _, _, _, _ => none
 | m + 1, i21, i22, i23, i24, i25, i26, l27, l28, l29 =>
  if decide (i21 < i24) then
   (F47 n (View_vedetteref19.mk i22 i23 i24 i25 i26 l27 l28 l29) i21 i1).bind fun (r31 : (Int × View_vedetteref19)) =>
   if decide (r31.1 < 0) then
    some (false, r31.2)
   else
    (F49_l30 n i1 m) (IntKind.wrap .i64 (i21 + 1)) r31.2.Client r31.2.Session r31.2.N r31.2.Start r31.2.Beat r31.2.L r31.2.Log r31.2.Wait
  else
   F49_l59 n i1 (n + 8) 0 i22 i23 i24 i25 i26 l27 l28 l29
theorem F49_l30_ok (n : Nat) (i1 : Int) : ∀ (m : Nat) (i21 i22 i23 i24 i25 i26 : Int) (l27 : (List Thing)) (l28 : (List Event)) (l29 : (List Frame)), SimL Try.prog D (n + 8) m p49c24 [(0, qp 1000000 0), (3, qj i1), (4, qj i21)] (W3 i22 i23 i24 i25 i26 l27 l28 l29) (F49_l30 n i1 m i21 i22 i23 i24 i25 i26 l27 l28 l29) (QB 0 (QT Try.prog D (n + 8) p49c59 (QF false pc49_r 3 F49_e))) := by
 intro m_l30
 induction m_l30 with
 | zero => intro i21 i22 i23 i24 i25 i26 l27 l28 l29; exact SimL.zero'  rfl
 | succ m_l30 ih_l30 =>
  intro i21 i22 i23 i24 i25 i26 l27 l28 l29
  refine SimL.succ ?_
  unfold F49_l30
  refine Sim.seq (.seq (.rg [(0, qp 1000000 0), (3, qj i1), (4, qj i21)] (W3 i22 i23 i24 i25 i26 l27 l28 l29) (.rd 6 [(28, qb (decide (i21 < i24))), (27, qj i24), (26, qp 1000000 2), (25, qp 1000000 0), (24, qp 1000000 0), (23, qj i21)] [] (.thenN (.cd _ ?_ ?_)))))
  ·refine Sim.skip (.thenN (.seq (.block (.st 3 [(33, qj i1), (32, qj i21), (31, qp 1000000 0)] [] (.bn ⟨some 34, .gcall false false W6 [[], [], []] 47 [31, 32, 33], none, []⟩ (fun r31 => [(34, qj r31.1)]) (fun r31 => (W18 r31)) (fun r31 hr => pe (gq (ks := W6) (ARGS := [qp 1000000 0, qj i21, qj i1]) (F47_ok _ _ _ _ _ hr))) (fun r31 => ?_))))))
   refine SimI.rd 1 [(35, qb (decide (r31.1 < 0)))] [] (.thenN (.cd _ ?_ ?_))
   ·exact Sim.sr 1 [(2, qb false)] [] (.ret (.blockR (.thenR (.loopR (.blockR (.thenR .fn))))))
   ·refine Sim.skip (.blockN (.thenN (.region0 (.rd 3 (rp [4, 30] (qj (iw .i64 (i21 + 1))) ++ [(29, qj i21)]) [] (.loopN (.pr [0, 3, 4] W6 [] [(0, qp 1000000 0), (3, qj i1), (4, qj (iw .i64 (i21 + 1)))] (W46 r31) ?_))))))
    exact ih_l30 (iw .i64 (i21 + 1)) r31.2.Client r31.2.Session r31.2.N r31.2.Start r31.2.Beat r31.2.L r31.2.Log r31.2.Wait
  ·refine Sim.exit (.thenX (.loopX (.blockX (.thenN (.seq (.sr 1 [(5, qj 0)] [] (.block (.loop (.pr [0, 3, 5] [100092, 1000000, 1000001, 1000002] [] [(0, qp 1000000 0), (3, qj i1), (5, qj 0)] (W3 i22 i23 i24 i25 i26 l27 l28 l29) ?_)))))))))
   exact F49_l59_ok n i1 (n + 8) 0 i22 i23 i24 i25 i26 l27 l28 l29
def F49_j2 (n : Nat) (a0 : View_vedetteref19) (i1 : Int) : Option (Bool × View_vedetteref19) :=
  F49_l30 n i1 (n + 8) 0 a0.Client a0.Session a0.N a0.Start a0.Beat a0.L a0.Log a0.Wait
theorem F49_j2_ok (n : Nat) (a0 : View_vedetteref19) (i1 : Int) : Sim Try.prog D (n + 8) p49c60 [(0, qp 1000000 0), (3, qj i1)] (W20 a0) (F49_j2 n a0 i1) (QF false pc49_r 3 F49_e) := by
  unfold F49_j2
  refine Sim.seq (.seq (.rg [(0, qp 1000000 0), (3, qj i1)] [(1000000, some (.cells (w1 a0))), (1000001, some (.arr 58 Event.cod.sz 1 (a0.Log).length (getOf Event.cod a0.Log))), (1000002, some (.arr 32 Frame.cod.sz 1 (a0.Wait).length (getOf Frame.cod a0.Wait)))] (.rd 1 [(4, qj 0)] [] (.thenN (.block (.loop (.pr [0, 3, 4] W6 [] [(0, qp 1000000 0), (3, qj i1), (4, qj 0)] [(1000000, some (.cells (w1 a0))), (1000001, some (.arr 58 Event.cod.sz 1 (a0.Log).length (getOf Event.cod a0.Log))), (1000002, some (.arr 32 Frame.cod.sz 1 (a0.Wait).length (getOf Frame.cod a0.Wait)))] ?_)))))))
  exact F49_l30_ok n i1 (n + 8) 0 a0.Client a0.Session a0.N a0.Start a0.Beat a0.L a0.Log a0.Wait
def F49 (n : Nat) (a0 : View_vedetteref19) : Option (Bool × View_vedetteref19) :=
 if decide (a0.Beat < 0) then
  F49_j2 n a0 a0.Start
 else
  F49_j2 n a0 (IntKind.wrap .i64 (a0.Beat + 1))
theorem F49_ok (n : Nat) (a0 : View_vedetteref19) : ∀ r, F49 n a0 = some r → D 49 [.one (.ptr 1000000 0)] [.cells [li .i64 a0.Client, li .i64 a0.Session, li .i64 a0.N, li .i64 a0.Start, li .i64 a0.Beat, vw Thing.cod a0.L, .osl 1000001 0 0 (a0.Log).length, .osl 1000002 0 0 (a0.Wait).length], .arr 58 Event.cod.sz 0 (a0.Log).length (getOf Event.cod a0.Log), .arr 32 Frame.cod.sz 0 (a0.Wait).length (getOf Frame.cod a0.Wait)] = some (F49_e r) := by
 refine fn_to (D := D) (n := n + 8) (nt := 107) (rs := pc49_r) (c := p49c63) (L := [(0, qp 1000000 0)]) (M := [(1000000, some (.cells (w2 a0))), (1000001, some (.arr 58 Event.cod.sz 0 (a0.Log).length (getOf Event.cod a0.Log))), (1000002, some (.arr 32 Frame.cod.sz 0 (a0.Wait).length (getOf Frame.cod a0.Wait)))]) (k := 3) rfl rfl rfl rfl rfl rfl rfl ?_
 unfold F49
 refine Sim.sr 1 [(2, qb false)] [] (.sr 6 (rp [3, 13] (qj (iw .i64 (a0.Beat + 1))) ++ [(12, qj a0.Beat), (11, qp 1000000 4), (10, qp 1000000 0), (9, qp 1000000 0)]) [] (.seq (.sr 5 [(18, qb (decide (a0.Beat < 0))), (17, qj a0.Beat), (16, qp 1000000 4), (15, qp 1000000 0), (14, qp 1000000 0)] [] (.cd _ ?_ ?_))))
 ·refine Sim.region0 (.rd 5 [(3, qj a0.Start), (22, qj a0.Start), (21, qp 1000000 3), (20, qp 1000000 0), (19, qp 1000000 0)] [] (.thenN (.pr [0, 3] W6 [] [(0, qp 1000000 0), (3, qj a0.Start)] [(1000000, some (.cells (w1 a0))), (1000001, some (.arr 58 Event.cod.sz 1 (a0.Log).length (getOf Event.cod a0.Log))), (1000002, some (.arr 32 Frame.cod.sz 1 (a0.Wait).length (getOf Frame.cod a0.Wait)))] ?_)))
  exact F49_j2_ok n a0 a0.Start
 ·refine Sim.skip (.thenN (.pr [0, 3] W6 [] [(0, qp 1000000 0), (3, qj (iw .i64 (a0.Beat + 1)))] [(1000000, some (.cells (w1 a0))), (1000001, some (.arr 58 Event.cod.sz 1 (a0.Log).length (getOf Event.cod a0.Log))), (1000002, some (.arr 32 Frame.cod.sz 1 (a0.Wait).length (getOf Frame.cod a0.Wait)))] ?_))
  exact F49_j2_ok n a0 (iw .i64 (a0.Beat + 1))
def F16_e : (Bool × View_vedetteref19) → PV × List Ob := fun r => (.one (lb r.1), [.cells [li .i64 r.2.Client, li .i64 r.2.Session, li .i64 r.2.N, li .i64 r.2.Start, li .i64 r.2.Beat, vw Thing.cod r.2.L, .osl 1000001 1 0 (r.2.Log).length, .osl 1000002 1 0 (r.2.Wait).length], .arr 58 Event.cod.sz 1 (r.2.Log).length (getOf Event.cod r.2.Log), .arr 32 Frame.cod.sz 1 (r.2.Wait).length (getOf Frame.cod r.2.Wait)])
def F16_l42 (n : Nat) : Nat → Int → Int → Int → Int → Int → (List Thing) → (List Event) → (List Frame) → Option (Bool × View_vedetteref19)
 | 0, _, _, _, _, _, _, _, _ => none
 | m + 1, i34, i35, i36, i37, i38, l39, l40, l41 =>
  (F49 n (View_vedetteref19.mk i34 i35 i36 i37 i38 l39 l40 l41)).bind fun (r43 : (Bool × View_vedetteref19)) =>
  if r43.1 then
   (F16_l42 n m) r43.2.Client r43.2.Session r43.2.N r43.2.Start r43.2.Beat r43.2.L r43.2.Log r43.2.Wait
  else
   some (true, r43.2)
theorem F16_l42_ok (n : Nat) : ∀ (m : Nat) (i34 i35 i36 i37 i38 : Int) (l39 : (List Thing)) (l40 : (List Event)) (l41 : (List Frame)), SimL Try.prog D (n + 8) m p16c38 [(0, qp 1000000 0)] (W3 i34 i35 i36 i37 i38 l39 l40 l41) (F16_l42 n m i34 i35 i36 i37 i38 l39 l40 l41) (QB 2 (QT Try.prog D (n + 8) p16c43 (QF false pc16_r 3 F16_e))) := by
 intro m_l42
 induction m_l42 with
 | zero => intro i34 i35 i36 i37 i38 l39 l40 l41; exact SimL.zero'  rfl
 | succ m_l42 ih_l42 =>
  intro i34 i35 i36 i37 i38 l39 l40 l41
  refine SimL.succ ?_
  unfold F16_l42
  refine Sim.seq (.seq (.rg [(0, qp 1000000 0)] (W3 i34 i35 i36 i37 i38 l39 l40 l41) (.rn 1 [(124, qp 1000000 0)] [] (.bn ⟨some 125, .gcall false false W6 [[]] 49 [124], none, []⟩ (fun r43 => [(125, qb r43.1)]) (fun r43 => [(1000000, some (.cells [lj r43.2.Client, lj r43.2.Session, lj r43.2.N, lj r43.2.Start, lj r43.2.Beat, vw Thing.cod r43.2.L, .osl 1000001 (1 + 1) 0 (r43.2.Log).length, .osl 1000002 (1 + 1) 0 (r43.2.Wait).length])), (1000001, some (.arr 58 Event.cod.sz (1 + 1) (r43.2.Log).length (getOf Event.cod r43.2.Log))), (1000002, some (.arr 32 Frame.cod.sz (1 + 1) (r43.2.Wait).length (getOf Frame.cod r43.2.Wait)))]) (fun r43 hr => pe (gq (ks := W6) (ARGS := [qp 1000000 0]) (F49_ok _ _ _ hr))) (fun r43 => ?_)))))
  refine SimI.dn (.thenN (.cd _ ?_ ?_))
  ·refine Sim.skip (.thenN (.block (.exit (.blockX (.loopN (.pr [0] W26 [] [(0, qp 1000000 0)] [(1000000, some (.cells [lj r43.2.Client, lj r43.2.Session, lj r43.2.N, lj r43.2.Start, lj r43.2.Beat, vw Thing.cod r43.2.L, .osl 1000001 1 0 (r43.2.Log).length, .osl 1000002 1 0 (r43.2.Wait).length])), (1000001, some (.arr 58 Event.cod.sz 1 (r43.2.Log).length (getOf Event.cod r43.2.Log))), (1000002, some (.arr 32 Frame.cod.sz 1 (r43.2.Wait).length (getOf Frame.cod r43.2.Wait)))] ?_))))))
   exact ih_l42 r43.2.Client r43.2.Session r43.2.N r43.2.Start r43.2.Beat r43.2.L r43.2.Log r43.2.Wait
  ·exact Sim.exit (.thenX (.loopX (.blockX (.thenN (.sr 1 [(4, qb true)] [] (.ret .fn))))))
def F16_l15 (n : Nat) (a1 : Frame) (i3 i4 i5 i6 i7 : Int) (l8 : (List Thing)) (l9 : (List Event)) (l10 : (List Frame)) : Nat → Int → Option (Bool × View_vedetteref19)
 | 0, _ => none
 | m + 1, i14 =>
  if decide (i14 < ((a1.Events).length : Int)) then
   (ix a1.Events i14).bind fun (x16 : Event) =>
   (F48 n x16).bind fun (r17 : Bool) =>
   if !(r17) then
    some (false, (View_vedetteref19.mk i3 i4 i5 i6 i7 l8 l9 l10))
   else
    (F16_l15 n a1 i3 i4 i5 i6 i7 l8 l9 l10 m) (IntKind.wrap .i64 (i14 + 1))
  else
   if ((l10).length + 1) * 64 ≤ maxCells ∧ (l10).length + 1 ≤ maxCells then
    F16_l42 n (n + 8) i3 i4 i5 a1.Start i7 l8 l9 (l10 ++ [a1])
   else none
theorem F16_l15_ok (n : Nat) (a1 : Frame) (i3 i4 i5 i6 i7 : Int) (l8 : (List Thing)) (l9 : (List Event)) (l10 : (List Frame)) : ∀ (m : Nat) (i14 : Int), SimL Try.prog D (n + 8) m p16c25 [(0, qp 1000000 0), (3, qp 3 0), (5, qj i14)] (W37 a1 i3 i4 i5 i6 i7 l8 l9 l10) (F16_l15 n a1 i3 i4 i5 i6 i7 l8 l9 l10 m i14) (QB 0 (QT Try.prog D (n + 8) p16c46 (QF false pc16_r 3 F16_e))) := by
 intro m_l15
 induction m_l15 with
 | zero => intro i14; exact SimL.zero'  rfl
 | succ m_l15 ih_l15 =>
  intro i14
  refine SimL.succ ?_
  unfold F16_l15
  refine Sim.seq (.seq (.rg [(0, qp 1000000 0), (3, qp 3 0), (5, qj i14)] [(3, some (.cells (w0 a1))), (1000000, some (.cells (W35 i3 i4 i5 i6 i7 l8 l9 l10))), (1000001, some (.arr 58 Event.cod.sz 1 (l9).length (getOf Event.cod l9))), (1000002, some (.arr 32 Frame.cod.sz 1 (l10).length (getOf Frame.cod l10)))] (.rd 5 [(99, qb (decide (i14 < ((a1.Events).length : Int)))), (98, qj ((a1.Events).length : Int)), (97, .one (vw Event.cod a1.Events)), (96, qp 3 5), (95, qj i14)] [] (.thenN (.cd _ ?_ ?_)))))
  ·refine Sim.skip (.thenN (.seq (.block (.st 3 [(104, qj i14), (103, .one (vw Event.cod a1.Events)), (102, qp 3 5)] [] (.bn ⟨some 105, .iaddrS 25 103 104, none, []⟩ (fun x16 => [(105, .one (.eptr (Event.cod.enc x16) 0))]) (fun x16 => []) (fun x16 hr => pe (ei (c := Event.cod) (k := .i64) hr)) (fun x16 => ?_))))))
   refine SimI.rn 1 [(106, .agg (Event.cells x16))] [] (.cl 107 true [[]] 48 [106] none (fun r17 => qb r17) [.agg (Event.cells x16)] (F48_ok _ _) (fun r17 => ?_))
   refine SimI.rd 1 [(108, qb (!(r17)))] [] (.thenN (.cd _ ?_ ?_))
   ·exact Sim.sr 1 [(4, qb false)] [] (.ret (.blockR (.thenR (.loopR (.blockR (.thenR .fn))))))
   ·refine Sim.skip (.blockN (.thenN (.region0 (.rd 3 (rp [5, 101] (qj (iw .i64 (i14 + 1))) ++ [(100, qj i14)]) [] (.loopN (.pr [0, 3, 5] W26 [] [(0, qp 1000000 0), (3, qp 3 0), (5, qj (iw .i64 (i14 + 1)))] [(3, some (.cells (w0 a1))), (1000000, some (.cells (W35 i3 i4 i5 i6 i7 l8 l9 l10))), (1000001, some (.arr 58 Event.cod.sz 1 (l9).length (getOf Event.cod l9))), (1000002, some (.arr 32 Frame.cod.sz 1 (l10).length (getOf Frame.cod l10)))] ?_))))))
    exact ih_l15 (iw .i64 (i14 + 1))
  ·refine Sim.exit (.thenX (.loopX (.blockX (.thenN (.sr 6 [(113, qp 1000000 3), (112, qp 1000000 0), (111, qj a1.Start), (110, qp 3 3), (109, qp 1000000 0)] [(1000000, some (.cells [lj i3, lj i4, lj i5, lj a1.Start, lj i7, vw Thing.cod l8, .osl 1000001 1 0 (l9).length, .osl 1000002 1 0 (l10).length]))] (.st 7 ([(120, .one (vw Frame.cod [a1])), (119, .agg (w0 a1)), (118, .one (.osl 1000002 1 0 (l10).length)), (117, qp 1000000 7)] ++ rp [116, 115, 114] (qp 1000000 0)) [] (.gu ⟨some 121, .app 100118 32 6 64 118 120, none, [(118, Hint.obj 1000002), (120, .imm)]⟩ [(121, .one (.osl 1000002 (1 + 1) 0 ((l10 ++ [a1])).length))] [(1000002, some (.arr 32 Frame.cod.sz (1 + 1) ((l10 ++ [a1])).length (getOf Frame.cod (l10 ++ [a1]))))] (fun hc => pe (eff_appO (c := Frame.cod) (g := 1) (l := l10) (a := a1) (by kernel_rfl) (by kernel_rfl) (by kernel_rfl) (by kernel_rfl) hc)) (.rd 3 [(123, qp 1000000 7), (122, qp 1000000 0)] [(1000000, some (.cells [lj i3, lj i4, lj i5, lj a1.Start, lj i7, vw Thing.cod l8, .osl 1000001 1 0 (l9).length, .osl 1000002 (1 + 1) 0 ((l10 ++ [a1])).length]))] (.thenN (.seq (.block (.loop (.pr [0] W26 [] [(0, qp 1000000 0)] [(1000000, some (.cells [lj i3, lj i4, lj i5, lj a1.Start, lj i7, vw Thing.cod l8, .osl 1000001 1 0 (l9).length, .osl 1000002 1 0 ((l10 ++ [a1])).length])), (1000001, some (.arr 58 Event.cod.sz 1 (l9).length (getOf Event.cod l9))), (1000002, some (.arr 32 Frame.cod.sz 1 ((l10 ++ [a1])).length (getOf Frame.cod (l10 ++ [a1]))))] ?_)))))))))))))
   exact F16_l42_ok n (n + 8) i3 i4 i5 a1.Start i7 l8 l9 (l10 ++ [a1])
def F16_j11 (n : Nat) (a1 : Frame) (i3 i4 i5 i6 i7 : Int) (l8 : (List Thing)) (l9 : (List Event)) (l10 : (List Frame)) : Option (Bool × View_vedetteref19) :=
  F16_l15 n a1 i3 i4 i5 i6 i7 l8 l9 l10 (n + 8) 0
theorem F16_j11_ok (n : Nat) (a1 : Frame) (i3 i4 i5 i6 i7 : Int) (l8 : (List Thing)) (l9 : (List Event)) (l10 : (List Frame)) : Sim Try.prog D (n + 8) p16c47 W38 (W37 a1 i3 i4 i5 i6 i7 l8 l9 l10) (F16_j11 n a1 i3 i4 i5 i6 i7 l8 l9 l10) (QF false pc16_r 3 F16_e) := by
  unfold F16_j11
  refine Sim.seq (.seq (.rg W38 [(3, some (.cells (w0 a1))), (1000000, some (.cells (W35 i3 i4 i5 i6 i7 l8 l9 l10))), (1000001, some (.arr 58 Event.cod.sz 1 (l9).length (getOf Event.cod l9))), (1000002, some (.arr 32 Frame.cod.sz 1 (l10).length (getOf Frame.cod l10)))] (.rd 1 [(5, qj 0)] [] (.thenN (.block (.loop (.pr [0, 3, 5] W26 [] [(0, qp 1000000 0), (3, qp 3 0), (5, qj 0)] [(3, some (.cells (w0 a1))), (1000000, some (.cells (W35 i3 i4 i5 i6 i7 l8 l9 l10))), (1000001, some (.arr 58 Event.cod.sz 1 (l9).length (getOf Event.cod l9))), (1000002, some (.arr 32 Frame.cod.sz 1 (l10).length (getOf Frame.cod l10)))] ?_)))))))
  exact F16_l15_ok n a1 i3 i4 i5 i6 i7 l8 l9 l10 (n + 8) 0
def F16 (n : Nat) (a0 : View_vedetteref19) (a1 : Frame) : Option (Bool × View_vedetteref19) :=
 if a1.Client != a0.Client then
  some (false, a0)
 else
  if a1.Session != a0.Session then
   some (false, a0)
  else
   if decide (a1.From < 0) then
    some (false, a0)
   else
    if decide (a0.N ≤ a1.From) then
     some (false, a0)
    else
     if decide (a1.Start < 0) then
      some (false, a0)
     else
      if decide (a1.Beat < a1.Start) then
       some (false, a0)
      else
       if decide ((0 : Int) ≤ a0.Start) then
        if a1.Start != a0.Start then
         some (false, a0)
        else
         if decide (a1.Beat ≤ a0.Beat) then
          some (false, a0)
         else
          if decide (imax a1.Start a0.Beat < IntKind.wrap .i64 (a1.Beat - 36)) then
           some (false, a0)
          else
           (F47 n a0 a1.From a1.Beat).bind fun (r1 : (Int × View_vedetteref19)) =>
           if decide ((0 : Int) ≤ r1.1) then
            some (false, r1.2)
           else
            F16_j11 n a1 r1.2.Client r1.2.Session r1.2.N r1.2.Start r1.2.Beat r1.2.L r1.2.Log r1.2.Wait
       else
        if decide (a1.Beat ≤ a0.Beat) then
         some (false, a0)
        else
         if decide (imax a1.Start a0.Beat < IntKind.wrap .i64 (a1.Beat - 36)) then
          some (false, a0)
         else
          (F47 n a0 a1.From a1.Beat).bind fun (r2 : (Int × View_vedetteref19)) =>
          if decide ((0 : Int) ≤ r2.1) then
           some (false, r2.2)
          else
           F16_j11 n a1 r2.2.Client r2.2.Session r2.2.N r2.2.Start r2.2.Beat r2.2.L r2.2.Log r2.2.Wait
theorem F16_ok (n : Nat) (a0 : View_vedetteref19) (a1 : Frame) : ∀ r, F16 n a0 a1 = some r → D 16 [.one (.ptr 1000000 0), .agg [li .i64 a1.From, li .i64 a1.Client, li .i64 a1.Session, li .i64 a1.Start, li .i64 a1.Beat, vw Event.cod a1.Events]] [.cells [li .i64 a0.Client, li .i64 a0.Session, li .i64 a0.N, li .i64 a0.Start, li .i64 a0.Beat, vw Thing.cod a0.L, .osl 1000001 0 0 (a0.Log).length, .osl 1000002 0 0 (a0.Wait).length], .arr 58 Event.cod.sz 0 (a0.Log).length (getOf Event.cod a0.Log), .arr 32 Frame.cod.sz 0 (a0.Wait).length (getOf Frame.cod a0.Wait)] = some (F16_e r) := by
 refine fn_to (D := D) (n := n + 8) (nt := 126) (rs := pc16_r) (c := p16c49) (L := [(0, qp 1000000 0), (1, .agg (w0 a1))]) (M := [(1000000, some (.cells (w2 a0))), (1000001, some (.arr 58 Event.cod.sz 0 (a0.Log).length (getOf Event.cod a0.Log))), (1000002, some (.arr 32 Frame.cod.sz 0 (a0.Wait).length (getOf Frame.cod a0.Wait)))]) (k := 3) rfl rfl rfl rfl rfl rfl rfl ?_
 unfold F16
 refine Sim.sr 2 [(4, qb false), (3, qp 3 0)] [(3, some (.cells (w0 a1)))] (.seq (.st 8 (rp [13, 12] (qb (a1.Client != a0.Client)) ++ [(11, qj a0.Client)] ++ rp [10, 9, 8] (qp 1000000 0) ++ [(7, qj a1.Client), (6, qp 3 1)]) [] (.sp 13 _ ?_ ?_)))
 ·exact SimI.rd 81 ([(94, qb true)] ++ rp W25 tz ++ W36 ++ rp W16 tz ++ W31 ++ rp W49 tz ++ W55 ++ rp W24 tz ++ W60 ++ rp [46, 45, 44, 43, 42] tz ++ W43 ++ rp [34, 33, 32, 31, 30, 29, 28] tz ++ [(27, qb true), (26, qb true), (25, tz), (24, tz), (23, tz), (22, qb true), (21, qb true)] ++ rp [20, 19, 18, 17, 16, 15, 14] tz) [] (.thenN (.ct (.sr 1 [(4, qb false)] [] (.ret (.thenR .fn)))))
 ·refine SimI.rn 9 (rp [22, 21, 20] (qb (a1.Session != a0.Session)) ++ [(19, qj a0.Session), (18, qp 1000000 1), (17, qp 1000000 0), (16, qp 1000000 0), (15, qj a1.Session), (14, qp 3 2)]) [] (.sp 22 _ ?_ ?_)
  ·exact SimI.rd 72 ([(94, qb true)] ++ rp W25 tz ++ W36 ++ rp W16 tz ++ W31 ++ rp W49 tz ++ W55 ++ rp W24 tz ++ W60 ++ rp [46, 45, 44, 43, 42] tz ++ W43 ++ rp [34, 33, 32, 31, 30, 29, 28] tz ++ [(27, qb true), (26, qb true), (25, tz), (24, tz), (23, tz)]) [] (.thenN (.ct (.sr 1 [(4, qb false)] [] (.ret (.thenR .fn)))))
  ·refine SimI.rn 5 (rp [27, 26, 25] (qb (decide (a1.From < 0))) ++ [(24, qj a1.From), (23, qp 3 0)]) [] (.sp 27 _ ?_ ?_)
   ·exact SimI.rd 67 ([(94, qb true)] ++ rp W25 tz ++ W36 ++ rp W16 tz ++ W31 ++ rp W49 tz ++ W55 ++ rp W24 tz ++ W60 ++ rp [46, 45, 44, 43, 42] tz ++ W43 ++ rp [34, 33, 32, 31, 30, 29, 28] tz) [] (.thenN (.ct (.sr 1 [(4, qb false)] [] (.ret (.thenR .fn)))))
   ·refine SimI.rn 9 (rp [36, 35, 34] (qb (decide (a0.N ≤ a1.From))) ++ [(33, qj a0.N), (32, qp 1000000 2), (31, qp 1000000 0), (30, qp 1000000 0), (29, qj a1.From), (28, qp 3 0)]) [] (.sp 36 _ ?_ ?_)
    ·exact SimI.rd 58 ([(94, qb true)] ++ rp W25 tz ++ W36 ++ rp W16 tz ++ W31 ++ rp W49 tz ++ W55 ++ rp W24 tz ++ W60 ++ rp [46, 45, 44, 43, 42] tz ++ [(41, qb true), (40, qb true), (39, tz), (38, tz), (37, tz)]) [] (.thenN (.ct (.sr 1 [(4, qb false)] [] (.ret (.thenR .fn)))))
    ·refine SimI.rn 5 (rp [41, 40, 39] (qb (decide (a1.Start < 0))) ++ [(38, qj a1.Start), (37, qp 3 3)]) [] (.sp 41 _ ?_ ?_)
     ·exact SimI.rd 53 ([(94, qb true)] ++ rp W25 tz ++ W36 ++ rp W16 tz ++ W31 ++ rp W49 tz ++ W55 ++ rp W24 tz ++ W60 ++ rp [46, 45, 44, 43, 42] tz) [] (.thenN (.ct (.sr 1 [(4, qb false)] [] (.ret (.thenR .fn)))))
     ·refine SimI.rn 7 (rp [48, 47, 46] (qb (decide (a1.Beat < a1.Start))) ++ [(45, qj a1.Beat), (44, qp 3 4), (43, qj a1.Start), (42, qp 3 3)]) [] (.sp 48 _ ?_ ?_)
      ·exact SimI.rd 46 ([(94, qb true)] ++ rp W25 tz ++ W36 ++ rp W16 tz ++ W31 ++ rp W49 tz ++ W55 ++ rp W24 tz) [] (.thenN (.ct (.sr 1 [(4, qb false)] [] (.ret (.thenR .fn)))))
      ·refine SimI.rn 6 (rp [54, 53] (qb (decide ((0 : Int) ≤ a0.Start))) ++ [(52, qj a0.Start), (51, qp 1000000 3), (50, qp 1000000 0), (49, qp 1000000 0)]) [] (.sp 54 _ ?_ ?_)
       ·refine SimI.rn 10 (rp [64, 63, 62, 61] (qb (a1.Start != a0.Start)) ++ [(60, qj a0.Start), (59, qp 1000000 3), (58, qp 1000000 0), (57, qp 1000000 0), (56, qj a1.Start), (55, qp 3 3)]) [] (.sp 64 _ ?_ ?_)
        ·exact SimI.rd 30 ([(94, qb true)] ++ rp W25 tz ++ W36 ++ rp W16 tz ++ W31 ++ rp W49 tz) [] (.thenN (.ct (.sr 1 [(4, qb false)] [] (.ret (.thenR .fn)))))
        ·refine SimI.rn 9 (rp [73, 72, 71] (qb (decide (a1.Beat ≤ a0.Beat))) ++ [(70, qj a0.Beat), (69, qp 1000000 4), (68, qp 1000000 0), (67, qp 1000000 0), (66, qj a1.Beat), (65, qp 3 4)]) [] (.sp 73 _ ?_ ?_)
         ·exact SimI.rd 21 ([(94, qb true)] ++ rp W25 tz ++ W36 ++ rp W16 tz) [] (.thenN (.ct (.sr 1 [(4, qb false)] [] (.ret (.thenR .fn)))))
         ·refine SimI.rn 13 (rp [86, 85, 84] (qb (decide (imax a1.Start a0.Beat < IntKind.wrap .i64 (a1.Beat - 36)))) ++ (W48 a1 a0)) [] (.sp 86 _ ?_ ?_)
          ·exact SimI.rd 8 ([(94, qb true)] ++ rp W25 tz) [] (.thenN (.ct (.sr 1 [(4, qb false)] [] (.ret (.thenR .fn)))))
          ·refine SimI.rn 5 (w19 a1) [] (.bn ⟨some 92, .gcall false false W6 [[], [], []] 47 [87, 89, 91], some (86, false), [(87, .at_ 1000000 0), (89, .imm), (91, .imm)]⟩ (fun r1 => [(92, qj r1.1)]) (fun r1 => (W19 r1)) (fun r1 hr => pe (gq (ks := W6) (ARGS := [qp 1000000 0, qj a1.From, qj a1.Beat]) (F47_ok _ _ _ _ _ hr))) (fun r1 => ?_))
           refine SimI.rd 2 (rp [94, 93] (qb (decide ((0 : Int) ≤ r1.1)))) [] (.thenN (.cd _ ?_ ?_))
           ·exact Sim.sr 1 [(4, qb false)] [] (.ret (.thenR .fn))
           ·refine Sim.skip (.thenN (.pr [0, 3] W26 [] W38 [(3, some (.cells (w0 a1))), (1000000, some (.cells (W10 r1))), (1000001, some (.arr 58 Event.cod.sz 1 (r1.2.Log).length (getOf Event.cod r1.2.Log))), (1000002, some (.arr 32 Frame.cod.sz 1 (r1.2.Wait).length (getOf Frame.cod r1.2.Wait)))] ?_))
            exact F16_j11_ok n a1 r1.2.Client r1.2.Session r1.2.N r1.2.Start r1.2.Beat r1.2.L r1.2.Log r1.2.Wait
       ·refine SimI.rn 19 (rp [73, 72, 71] (qb (decide (a1.Beat ≤ a0.Beat))) ++ [(70, qj a0.Beat), (69, qp 1000000 4), (68, qp 1000000 0), (67, qp 1000000 0), (66, qj a1.Beat), (65, qp 3 4)] ++ rp [64, 63, 62] (qb false) ++ rp [61, 60, 59, 58, 57, 56, 55] tz) [] (.sp 73 _ ?_ ?_)
        ·exact SimI.rd 21 ([(94, qb true)] ++ rp W25 tz ++ W36 ++ rp W16 tz) [] (.thenN (.ct (.sr 1 [(4, qb false)] [] (.ret (.thenR .fn)))))
        ·refine SimI.rn 13 (rp [86, 85, 84] (qb (decide (imax a1.Start a0.Beat < IntKind.wrap .i64 (a1.Beat - 36)))) ++ (W48 a1 a0)) [] (.sp 86 _ ?_ ?_)
         ·exact SimI.rd 8 ([(94, qb true)] ++ rp W25 tz) [] (.thenN (.ct (.sr 1 [(4, qb false)] [] (.ret (.thenR .fn)))))
         ·refine SimI.rn 5 (w19 a1) [] (.bn ⟨some 92, .gcall false false W6 [[], [], []] 47 [87, 89, 91], some (86, false), [(87, .at_ 1000000 0), (89, .imm), (91, .imm)]⟩ (fun r2 => [(92, qj r2.1)]) (fun r2 => (W19 r2)) (fun r2 hr => pe (gq (ks := W6) (ARGS := [qp 1000000 0, qj a1.From, qj a1.Beat]) (F47_ok _ _ _ _ _ hr))) (fun r2 => ?_))
          refine SimI.rd 2 (rp [94, 93] (qb (decide ((0 : Int) ≤ r2.1)))) [] (.thenN (.cd _ ?_ ?_))
          ·exact Sim.sr 1 [(4, qb false)] [] (.ret (.thenR .fn))
          ·refine Sim.skip (.thenN (.pr [0, 3] W26 [] W38 [(3, some (.cells (w0 a1))), (1000000, some (.cells (W10 r2))), (1000001, some (.arr 58 Event.cod.sz 1 (r2.2.Log).length (getOf Event.cod r2.2.Log))), (1000002, some (.arr 32 Frame.cod.sz 1 (r2.2.Wait).length (getOf Frame.cod r2.2.Wait)))] ?_))
           exact F16_j11_ok n a1 r2.2.Client r2.2.Session r2.2.N r2.2.Start r2.2.Beat r2.2.L r2.2.Log r2.2.Wait
def F19_e : Bool → PV × List Ob := fun r => (.one (lb r), [])
def F19_l4 (n : Nat) (a0 a1 : (List Thing)) : Nat → Int → Option Bool
 | 0, _ => none
 | m + 1, i3 =>
  if decide (i3 < ((a0).length : Int)) then
   (ix a0 i3).bind fun (x5 : Thing) =>
   (ix a1 i3).bind fun (x6 : Thing) =>
   if !(Thing.eqb x5 x6) then
    some false
   else
    (F19_l4 n a0 a1 m) (IntKind.wrap .i64 (i3 + 1))
  else
   some true
theorem F19_l4_ok (n : Nat) (a0 a1 : (List Thing)) : ∀ (m : Nat) (i3 : Int), SimL Try.prog D (n + 8) m p19c25 [(0, .one (vw Thing.cod a0)), (1, .one (vw Thing.cod a1)), (5, qj i3)] [] (F19_l4 n a0 a1 m i3) (QB 0 (QT Try.prog D (n + 8) p19c31 (QF false pc19_r 0 F19_e))) := by
 intro m_l4
 induction m_l4 with
 | zero => intro i3; exact SimL.zero'  rfl
 | succ m_l4 ih_l4 =>
  intro i3
  refine SimL.succ ?_
  unfold F19_l4
  refine Sim.seq (.seq (.rg [(0, .one (vw Thing.cod a0)), (1, .one (vw Thing.cod a1)), (5, qj i3)] [] (.rd 4 [(14, qb (decide (i3 < ((a0).length : Int)))), (13, qj ((a0).length : Int)), (12, .one (vw Thing.cod a0)), (11, qj i3)] [] (.thenN (.cd _ ?_ ?_)))))
  ·refine Sim.skip (.thenN (.seq (.block (.st 2 [(18, qj i3), (17, .one (vw Thing.cod a0))] [] (.bn ⟨some 19, .iaddrS 11 17 18, none, [(17, .imm), (18, .imm)]⟩ (fun x5 => [(19, .one (.eptr (Thing.cod.enc x5) 0))]) (fun x5 => []) (fun x5 hr => pe (ei (c := Thing.cod) (k := .i64) hr)) (fun x5 => ?_))))))
   refine SimI.rn 3 [(22, qj i3), (21, .one (vw Thing.cod a1)), (20, .agg (Thing.cells x5))] [] (.bn ⟨some 23, .iaddrS 11 21 22, none, [(21, .imm), (22, .imm)]⟩ (fun x6 => [(23, .one (.eptr (Thing.cod.enc x6) 0))]) (fun x6 => []) (fun x6 hr => pe (ei (c := Thing.cod) (k := .i64) hr)) (fun x6 => ?_))
   refine SimI.rn 1 [(24, .agg (Thing.cells x6))] [] (.se ⟨some 25, .prim (.bin .neq 54 false false) [20, 24], none, [(20, .imm), (24, .imm)]⟩ [(25, qb (!(Thing.eqb x5 x6)))] [] (pe (ep (Thing_eqn x5 x6 _ _))) (.dn (.thenN (.cd _ ?_ ?_))))
   ·exact Sim.sr 1 [(4, qb false)] [] (.ret (.blockR (.thenR (.loopR (.blockR (.thenR .fn))))))
   ·refine Sim.skip (.blockN (.thenN (.region0 (.rd 3 (rp [5, 16] (qj (iw .i64 (i3 + 1))) ++ [(15, qj i3)]) [] (.loopN (.pr [0, 1, 5] [] [] [(0, .one (vw Thing.cod a0)), (1, .one (vw Thing.cod a1)), (5, qj (iw .i64 (i3 + 1)))] [] ?_))))))
    exact ih_l4 (iw .i64 (i3 + 1))
  ·exact Sim.exit (.thenX (.loopX (.blockX (.thenN (.sr 1 [(4, qb true)] [] (.ret .fn))))))
def F19 (n : Nat) (a0 a1 : (List Thing)) : Option Bool :=
 if ((a0).length : Int) != ((a1).length : Int) then
  some false
 else
  F19_l4 n a0 a1 (n + 8) 0
theorem F19_ok (n : Nat) (a0 a1 : (List Thing)) : ∀ r, F19 n a0 a1 = some r → D 19 [.one (vw Thing.cod a0), .one (vw Thing.cod a1)] [] = some (F19_e r) := by
 refine fn_to (D := D) (n := n + 8) (nt := 26) (rs := pc19_r) (c := p19c34) (L := [(0, .one (vw Thing.cod a0)), (1, .one (vw Thing.cod a1))]) (M := []) (k := 0) rfl rfl rfl rfl rfl rfl rfl ?_
 unfold F19
 refine Sim.sr 1 [(4, qb false)] [] (.seq (.sr 5 [(10, qb (((a0).length : Int) != ((a1).length : Int))), (9, qj ((a1).length : Int)), (8, .one (vw Thing.cod a1)), (7, qj ((a0).length : Int)), (6, .one (vw Thing.cod a0))] [] (.cd _ ?_ ?_)))
 ·exact Sim.sr 1 [(4, qb false)] [] (.ret (.thenR .fn))
 ·refine Sim.skip (.thenN (.seq (.sr 1 [(5, qj 0)] [] (.block (.loop (.pr [0, 1, 5] [] [] [(0, .one (vw Thing.cod a0)), (1, .one (vw Thing.cod a1)), (5, qj 0)] [] ?_))))))
  exact F19_l4_ok n a0 a1 (n + 8) 0
def F21_e : Bool → PV × List Ob := fun r => (.one (lb r), [])
def F21_l4 (n : Nat) (a0 a1 : (List Event)) : Nat → Int → Option Bool
 | 0, _ => none
 | m + 1, i3 =>
  if decide (i3 < ((a0).length : Int)) then
   (ix a0 i3).bind fun (x5 : Event) =>
   (ix a1 i3).bind fun (x6 : Event) =>
   if !(Event.eqb x5 x6) then
    some false
   else
    (F21_l4 n a0 a1 m) (IntKind.wrap .i64 (i3 + 1))
  else
   some true
theorem F21_l4_ok (n : Nat) (a0 a1 : (List Event)) : ∀ (m : Nat) (i3 : Int), SimL Try.prog D (n + 8) m p21c25 [(0, .one (vw Event.cod a0)), (1, .one (vw Event.cod a1)), (5, qj i3)] [] (F21_l4 n a0 a1 m i3) (QB 0 (QT Try.prog D (n + 8) p21c31 (QF false pc21_r 0 F21_e))) := by
 intro m_l4
 induction m_l4 with
 | zero => intro i3; exact SimL.zero'  rfl
 | succ m_l4 ih_l4 =>
  intro i3
  refine SimL.succ ?_
  unfold F21_l4
  refine Sim.seq (.seq (.rg [(0, .one (vw Event.cod a0)), (1, .one (vw Event.cod a1)), (5, qj i3)] [] (.rd 4 [(14, qb (decide (i3 < ((a0).length : Int)))), (13, qj ((a0).length : Int)), (12, .one (vw Event.cod a0)), (11, qj i3)] [] (.thenN (.cd _ ?_ ?_)))))
  ·refine Sim.skip (.thenN (.seq (.block (.st 2 [(18, qj i3), (17, .one (vw Event.cod a0))] [] (.bn ⟨some 19, .iaddrS 25 17 18, none, [(17, .imm), (18, .imm)]⟩ (fun x5 => [(19, .one (.eptr (Event.cod.enc x5) 0))]) (fun x5 => []) (fun x5 hr => pe (ei (c := Event.cod) (k := .i64) hr)) (fun x5 => ?_))))))
   refine SimI.rn 3 [(22, qj i3), (21, .one (vw Event.cod a1)), (20, .agg (Event.cells x5))] [] (.bn ⟨some 23, .iaddrS 25 21 22, none, [(21, .imm), (22, .imm)]⟩ (fun x6 => [(23, .one (.eptr (Event.cod.enc x6) 0))]) (fun x6 => []) (fun x6 hr => pe (ei (c := Event.cod) (k := .i64) hr)) (fun x6 => ?_))
   refine SimI.rn 1 [(24, .agg (Event.cells x6))] [] (.se ⟨some 25, .prim (.bin .neq 58 false false) [20, 24], none, [(20, .imm), (24, .imm)]⟩ [(25, qb (!(Event.eqb x5 x6)))] [] (pe (ep (Event_eqn x5 x6 _ _))) (.dn (.thenN (.cd _ ?_ ?_))))
   ·exact Sim.sr 1 [(4, qb false)] [] (.ret (.blockR (.thenR (.loopR (.blockR (.thenR .fn))))))
   ·refine Sim.skip (.blockN (.thenN (.region0 (.rd 3 (rp [5, 16] (qj (iw .i64 (i3 + 1))) ++ [(15, qj i3)]) [] (.loopN (.pr [0, 1, 5] [] [] [(0, .one (vw Event.cod a0)), (1, .one (vw Event.cod a1)), (5, qj (iw .i64 (i3 + 1)))] [] ?_))))))
    exact ih_l4 (iw .i64 (i3 + 1))
  ·exact Sim.exit (.thenX (.loopX (.blockX (.thenN (.sr 1 [(4, qb true)] [] (.ret .fn))))))
def F21 (n : Nat) (a0 a1 : (List Event)) : Option Bool :=
 if ((a0).length : Int) != ((a1).length : Int) then
  some false
 else
  F21_l4 n a0 a1 (n + 8) 0
theorem F21_ok (n : Nat) (a0 a1 : (List Event)) : ∀ r, F21 n a0 a1 = some r → D 21 [.one (vw Event.cod a0), .one (vw Event.cod a1)] [] = some (F21_e r) := by
 refine fn_to (D := D) (n := n + 8) (nt := 26) (rs := pc21_r) (c := p21c34) (L := [(0, .one (vw Event.cod a0)), (1, .one (vw Event.cod a1))]) (M := []) (k := 0) rfl rfl rfl rfl rfl rfl rfl ?_
 unfold F21
 refine Sim.sr 1 [(4, qb false)] [] (.seq (.sr 5 [(10, qb (((a0).length : Int) != ((a1).length : Int))), (9, qj ((a1).length : Int)), (8, .one (vw Event.cod a1)), (7, qj ((a0).length : Int)), (6, .one (vw Event.cod a0))] [] (.cd _ ?_ ?_)))
 ·exact Sim.sr 1 [(4, qb false)] [] (.ret (.thenR .fn))
 ·refine Sim.skip (.thenN (.seq (.sr 1 [(5, qj 0)] [] (.block (.loop (.pr [0, 1, 5] [] [] [(0, .one (vw Event.cod a0)), (1, .one (vw Event.cod a1)), (5, qj 0)] [] ?_))))))
  exact F21_l4_ok n a0 a1 (n + 8) 0
end Go.Proofs.Ythdabpmcojmhhaa
