/- No condition. -/
import Derived.Test.YthdabpmcojmhhaaViewOrdersE
namespace Go.Proofs.Ythdabpmcojmhhaa
open Go Go.Rx
set_option maxRecDepth 100000
set_option linter.unusedVariables false
set_option linter.unusedSimpArgs false
set_option linter.unnecessarySimpa false
set_option linter.unnecessarySimpa false
def F13_e : View → PV × List Ob := fun r => (.one (.ptr 1000000 0), [.cells [li .i64 r.client, li .i64 r.session, li .i64 r.n, li .i64 r.beat, li .i64 r.start, vw Thing.cod r.things, .osl 1000001 0 0 (r.log_).length, .mp 1000002], .arr 58 Event.cod.sz 0 (r.log_).length (getOf Event.cod r.log_), .map (mapOf Key.cells Event.cod r.wait)])
def F13 (n : Nat) (a0 a1 a2 : Int) : Option View :=
 some (View.mk a0 a1 (imin (imax a2 1) 4) (-1) (-1) ([] : List Thing) ([] : List Event) ([] : (List (Key × (List Event)))))
theorem F13_ok (n : Nat) (a0 a1 a2 : Int) : ∀ r, F13 n a0 a1 a2 = some r → D 13 [.one (li .i64 a0), .one (li .i64 a1), .one (li .i64 a2)] [] = some (F13_e r) := by
 refine fn_to (D := D) (n := n + 8) (nt := 15) (rs := pc13_r) (c := p13c5) (L := [(0, qj a0), (1, qj a1), (2, qj a2)]) (M := []) (k := 0) rfl rfl rfl rfl rfl rfl rfl ?_
 unfold F13
 exact Sim.sr 1 [(6, .one (.val (.pointer none)))] [] (.sr 9 [(6, qp 14 0), (14, qp 14 0), (13, .agg [lj a0, lj a1, lj (imin (imax a2 1) 4), lj (-1), lj (-1), lnil, lnil, .mp 12]), (12, .one (.mp 12)), (11, qj (imin (imax a2 1) 4)), (10, qj (imax a2 1)), (9, qj a2), (8, qj a1), (7, qj a0)] [(14, some (.cells [lj a0, lj a1, lj (imin (imax a2 1) 4), lj (-1), lj (-1), vw Thing.cod ([] : List Thing), .osl 400113 0 0 (([] : List Event)).length, .mp 12])), (400113, some (.arr 58 Event.cod.sz 0 (([] : List Event)).length (getOf Event.cod ([] : List Event)))), (12, some (.map (mapOf Key.cells Event.cod ([] : (List (Key × (List Event)))))))] (.ret .fn))
def F77_e : Bool → PV × List Ob := fun r => (.one (lb r), [])
def F77 (n : Nat) (a0 : Point) : Option Bool :=
 if decide ((0 : Int) ≤ a0.X) then
  if decide (a0.X < 64) then
   if decide ((0 : Int) ≤ a0.Y) then
    some (decide (a0.Y < 64))
   else
    some false
  else
   some false
 else
  some false
theorem F77_ok (n : Nat) (a0 : Point) : ∀ r, F77 n a0 = some r → D 77 [.agg [li .i64 a0.X, li .i64 a0.Y]] [] = some (F77_e r) := by
 refine fn_to (D := D) (n := n + 8) (nt := 21) (rs := pc77_r) (c := p77c5) (L := [(0, .agg [lj a0.X, lj a0.Y])]) (M := []) (k := 0) rfl rfl rfl rfl rfl rfl rfl ?_
 unfold F77
 refine Sim.sr 2 W19 [(1, some (.cells [lj a0.X, lj a0.Y]))] (.st 4 (rp [6, 5] (qb (decide ((0 : Int) ≤ a0.X))) ++ [(4, qj a0.X), (3, qp 1 0)]) [] (.sp 6 _ ?_ ?_))
 ·refine SimI.rn 5 (rp [11, 10, 9] (qb (decide (a0.X < 64))) ++ [(8, qj a0.X), (7, qp 1 0)]) [] (.sp 11 _ ?_ ?_)
  ·refine SimI.rn 5 (rp [16, 15, 14] (qb (decide ((0 : Int) ≤ a0.Y))) ++ [(13, qj a0.Y), (12, qp 1 1)]) [] (.sp 16 _ ?_ ?_)
   ·exact SimI.rd 5 (rp [2, 20, 19] (qb (decide (a0.Y < 64))) ++ [(18, qj a0.Y), (17, qp 1 1)]) [] (.thenN (.ret .fn))
   ·exact SimI.rd 5 [(2, qb false), (20, qb false), (19, tz), (18, tz), (17, tz)] [] (.thenN (.ret .fn))
  ·exact SimI.rd 10 [(2, qb false), (20, qb false), (19, tz), (18, tz), (17, tz), (16, qb false), (15, qb false), (14, tz), (13, tz), (12, tz)] [] (.thenN (.ret .fn))
 ·exact SimI.rd 15 [(2, qb false), (20, qb false), (19, tz), (18, tz), (17, tz), (16, qb false), (15, qb false), (14, tz), (13, tz), (12, tz), (11, qb false), (10, qb false), (9, tz), (8, tz), (7, tz)] [] (.thenN (.ret .fn))
def F62_e : Bool → PV × List Ob := fun r => (.one (lb r), [])
def F62 (n : Nat) (a0 : Field) : Option Bool :=
 if a0.N == 0 then
  some (decide ((a0.Text.size : Int) ≤ 12))
 else
  if a0.Text.toList == ByteArray.empty.toList then
   some (decide ((a0.Text.size : Int) ≤ 12))
  else
   some false
theorem F62_ok (n : Nat) (a0 : Field) : ∀ r, F62 n a0 = some r → D 62 [.agg [li .i64 a0.N, ls a0.Text]] [] = some (F62_e r) := by
 refine fn_to (D := D) (n := n + 8) (nt := 17) (rs := pc62_r) (c := p62c5) (L := [(0, .agg [lj a0.N, ls a0.Text])]) (M := []) (k := 0) rfl rfl rfl rfl rfl rfl rfl ?_
 unfold F62
 refine Sim.sr 2 W19 [(1, some (.cells [lj a0.N, ls a0.Text]))] (.st 4 [(6, qb (a0.N == 0)), (5, qb (a0.N == 0)), (4, qj a0.N), (3, qp 1 0)] [] (.sp 6 _ ?_ ?_))
 ·exact SimI.rd 11 (rp [2, 16, 15] (qb (decide ((a0.Text.size : Int) ≤ 12))) ++ [(14, qj (a0.Text.size : Int)), (13, qs a0.Text), (12, qp 1 1), (11, qb true), (10, qb true), (9, tz), (8, tz), (7, tz)]) [] (.thenN (.ret .fn))
 ·refine SimI.rn 5 (rp [11, 10, 9] (qb (a0.Text.toList == be.toList)) ++ [(8, qs a0.Text), (7, qp 1 1)]) [] (.sp 11 _ ?_ ?_)
  ·exact SimI.rd 6 (rp [2, 16, 15] (qb (decide ((a0.Text.size : Int) ≤ 12))) ++ [(14, qj (a0.Text.size : Int)), (13, qs a0.Text), (12, qp 1 1)]) [] (.thenN (.ret .fn))
  ·exact SimI.rd 6 [(2, qb false), (16, qb false), (15, tz), (14, tz), (13, tz), (12, tz)] [] (.thenN (.ret .fn))
def F79_e : Bool → PV × List Ob := fun r => (.one (lb r), [])
def F79 (n : Nat) (a0 : Field) : Option Bool :=
 (F62 n a0).bind fun (r1 : Bool) =>
 some (!(r1))
theorem F79_ok (n : Nat) (a0 : Field) : ∀ r, F79 n a0 = some r → D 79 [.agg [li .i64 a0.N, ls a0.Text]] [] = some (F79_e r) := by
 refine fn_to (D := D) (n := n + 8) (nt := 6) (rs := pc79_r) (c := p79c5) (L := [(0, .agg [lj a0.N, ls a0.Text])]) (M := []) (k := 0) rfl rfl rfl rfl rfl rfl rfl ?_
 unfold F79
 refine Sim.sr 2 W19 [(1, some (.cells [lj a0.N, ls a0.Text]))] (.st 1 [(3, .agg [lj a0.N, ls a0.Text])] [] (.cl 4 true [[]] 62 [3] none (fun r1 => qb r1) [.agg [lj a0.N, ls a0.Text]] (F62_ok _ _) (fun r1 => ?_)))
 exact SimI.rd 2 [(2, qb (!(r1))), (5, qb (!(r1)))] [] (.thenN (.ret .fn))
def F91s0_e (a0 : (List Field)) : Int → PV × List Ob := fun r => (.one (li .i64 r), [])
def F91s0_l4 (n : Nat) (a0 : (List Field)) : Nat → Int → Option Int
 | 0, _ => none
 | m + 1, i3 =>
  if decide (i3 < ((a0).length : Int)) then
   (ix a0 i3).bind fun (x5 : Field) =>
   (F79 n x5).bind fun (r6 : Bool) =>
   if r6 then
    some i3
   else
    (F91s0_l4 n a0 m) (IntKind.wrap .i64 (i3 + 1))
  else
   some (-1)
theorem F91s0_l4_ok (n : Nat) (a0 : (List Field)) : ∀ (m : Nat) (i3 : Int), SimL Try.prog D (n + 8) m p91c20 [(0, .one (vw Field.cod a0)), (1, .one (.val (.func (.func 79) #[] #[]))), (7, qj ((a0).length : Int)), (8, qj i3)] [] (F91s0_l4 n a0 m i3) (QB 0 (QT Try.prog D (n + 8) p91c26 (QF false pc91_r 0 (F91s0_e a0)))) := by
 intro m_l4
 induction m_l4 with
 | zero => intro i3; exact SimL.zero'  rfl
 | succ m_l4 ih_l4 =>
  intro i3
  refine SimL.succ ?_
  unfold F91s0_l4
  refine Sim.seq (.rg [(0, .one (vw Field.cod a0)), (1, .one (.val (.func (.func 79) #[] #[]))), (7, qj ((a0).length : Int)), (8, qj i3)] [] (.rd 1 [(9, qb (decide (i3 < ((a0).length : Int))))] [] (.thenN (.seq (.cd _ ?_ ?_)))))
  ·refine Sim.skip (.thenN (.seq (.block (.sr 2 [(5, qj i3), (10, qj i3)] [] (.st 3 [(13, qj i3), (12, .one (vw Field.cod a0)), (11, .one (.val (.func (.func 79) #[] #[])))] [] (.bn ⟨some 14, .iaddrS 2 12 13, none, []⟩ (fun x5 => [(14, .one (.eptr (Field.cod.enc x5) 0))]) (fun x5 => []) (fun x5 hr => pe (ei (c := Field.cod) (k := .i64) hr)) (fun x5 => ?_)))))))
   refine SimI.rn 1 [(15, .agg [lj x5.N, ls x5.Text])] [] (.bn ⟨some 16, .callv true [[]] 11 [15], none, []⟩ (fun r6 => [(16, qb r6)]) (fun r6 => []) (fun r6 hr => pe (eff_callvv (by kernel_rfl) (ARGS := [.agg [lj x5.N, ls x5.Text]]) (by kernel_rfl) (args_clean (by kernel_rfl) args_nil) (F79_ok _ _ _ hr) (by kernel_rfl))) (fun r6 => ?_))
   refine SimI.dn (.thenN (.cd _ ?_ ?_))
   ·exact Sim.sr 2 [(4, qj i3), (17, qj i3)] [] (.ret (.blockR (.thenR (.loopR (.blockR (.thenR .fn))))))
   ·refine Sim.skip (.blockN (.thenN (.region0 (.rd 2 (rp [8, 18] (qj (iw .i64 (i3 + 1)))) [] (.loopN (.pr [0, 1, 7, 8] [] [] [(0, .one (vw Field.cod a0)), (1, .one (.val (.func (.func 79) #[] #[]))), (7, qj ((a0).length : Int)), (8, qj (iw .i64 (i3 + 1)))] [] ?_))))))
    exact ih_l4 (iw .i64 (i3 + 1))
  ·exact Sim.exit (.thenX (.loopX (.blockX (.thenN (.sr 1 [(4, qj (-1))] [] (.ret .fn))))))
def F91s0 (n : Nat) (a0 : (List Field)) : Option Int :=
 F91s0_l4 n a0 (n + 8) 0
theorem F91s0_ok (n : Nat) (a0 : (List Field)) : ∀ r, F91s0 n a0 = some r → D 91 [.one (vw Field.cod a0), .one (.val (.func (.func 79) #[] #[]))] [] = some ((F91s0_e a0) r) := by
 refine fn_to (D := D) (n := n + 8) (nt := 19) (rs := pc91_r) (c := p91c28) (L := [(0, .one (vw Field.cod a0)), (1, .one (.val (.func (.func 79) #[] #[])))]) (M := []) (k := 0) rfl rfl rfl rfl rfl rfl rfl ?_
 unfold F91s0
 refine Sim.sr 1 [(4, qj 0)] [] (.seq (.sr 3 [(8, qj 0), (7, qj ((a0).length : Int)), (6, .one (vw Field.cod a0))] [] (.block (.loop (.pr [0, 1, 7, 8] [] [] [(0, .one (vw Field.cod a0)), (1, .one (.val (.func (.func 79) #[] #[]))), (7, qj ((a0).length : Int)), (8, qj 0)] [] ?_)))))
 exact F91s0_l4_ok n a0 (n + 8) 0
def F78s0_e (a0 : (List Field)) : Bool → PV × List Ob := fun r => (.one (lb r), [])
def F78s0 (n : Nat) (a0 : (List Field)) : Option Bool :=
 (F91s0 n a0).bind fun (r1 : Int) =>
 some (decide ((0 : Int) ≤ r1))
theorem F78s0_ok (n : Nat) (a0 : (List Field)) : ∀ r, F78s0 n a0 = some r → D 78 [.one (vw Field.cod a0), .one (.val (.func (.func 79) #[] #[]))] [] = some ((F78s0_e a0) r) := by
 refine fn_to (D := D) (n := n + 8) (nt := 9) (rs := pc78_r) (c := p78c5) (L := [(0, .one (vw Field.cod a0)), (1, .one (.val (.func (.func 79) #[] #[])))]) (M := []) (k := 0) rfl rfl rfl rfl rfl rfl rfl ?_
 unfold F78s0
 refine Sim.sr 1 [(4, qb false)] [] (.st 2 [(6, .one (.val (.func (.func 79) #[] #[]))), (5, .one (vw Field.cod a0))] [] (.bn ⟨some 7, .gcall false false W3 [[(0, 2)], []] 91 [5, 6], none, []⟩ (fun r1 => [(7, qj r1)]) (fun r1 => []) (fun r1 hr => pe (gq (ks := []) (ARGS := [.one (vw Field.cod a0), .one (.val (.func (.func 79) #[] #[]))]) (F91s0_ok _ _ _ hr))) (fun r1 => ?_)))
 exact SimI.rd 2 (rp [4, 8] (qb (decide ((0 : Int) ≤ r1)))) [] (.thenN (.ret .fn))
def F72_e : Bool → PV × List Ob := fun r => (.one (lb r), [])
def F72 (n : Nat) (a0 : Thing) : Option Bool :=
 if decide ((0 : Int) ≤ a0.ID) then
  if decide (a0.ID ≤ 1000000) then
   (F77 n a0.At).bind fun (r1 : Bool) =>
   if r1 then
    (F78s0 n [a0.F.a0, a0.F.a1, a0.F.a2, a0.F.a3]).bind fun (r2 : Bool) =>
    some (!(r2))
   else
    some false
  else
   some false
 else
  some false
theorem F72_ok (n : Nat) (a0 : Thing) : ∀ r, F72 n a0 = some r → D 72 [.agg (Thing.cells a0)] [] = some (F72_e r) := by
 refine fn_to (D := D) (n := n + 8) (nt := 22) (rs := pc72_r) (c := p72c5) (L := [(0, .agg (Thing.cells a0))]) (M := []) (k := 0) rfl rfl rfl rfl rfl rfl rfl ?_
 unfold F72
 refine Sim.sr 2 W19 [(1, some (.cells (Thing.cells a0)))] (.st 4 (rp [6, 5] (qb (decide ((0 : Int) ≤ a0.ID))) ++ [(4, qj a0.ID), (3, qp 1 0)]) [] (.sp 6 _ ?_ ?_))
 ·refine SimI.rn 5 (rp [11, 10, 9] (qb (decide (a0.ID ≤ 1000000))) ++ [(8, qj a0.ID), (7, qp 1 0)]) [] (.sp 11 _ ?_ ?_)
  ·refine SimI.rn 2 [(13, .agg [lj a0.At.X, lj a0.At.Y]), (12, qp 1 1)] [] (.cl 14 true [[]] 77 [13] (some (11, true)) (fun r1 => qb r1) [.agg [lj a0.At.X, lj a0.At.Y]] (F77_ok _ _) (fun r1 => ?_))
   refine SimI.rn 2 [(16, qb r1), (15, qb r1)] [] (.sp 16 _ ?_ ?_)
   ·refine SimI.rn 2 [(18, .one (.csl 1 2 3 4)), (17, qp 1 3)] [] (.bn ⟨some 19, .gcall false false [1, 300000, 300001, 300002, 300003, 300004, 300005, 300006, 300007] [[(0, 2)], []] 78 [18, Operand.func 79], some (16, true), []⟩ (fun r2 => [(19, qb r2)]) (fun r2 => []) (fun r2 hr => pe (eff_gcall (ks := []) (rks := [1]) (new := []) (ARGS := [.one (.csl 1 2 3 4), .one (.val (.func (.func 79) #[] #[]))]) (args1 := (W31 a0)) (args2 := (W31 a0)) (os := []) (os' := []) (os1 := []) (res := qb r2) (res1 := qb r2) (r := qb r2) (N := []) (by kernel_rfl) (readA_ow (readA_csl (c := Field.cod) (k := 1) (off := 3) (cs := (Thing.cells a0)) (l := [a0.F.a0, a0.F.a1, a0.F.a2, a0.F.a3]) (by kernel_rfl) (by kernel_rfl) (by kernel_rfl) (by kernel_rfl) (readA_keep (by kernel_rfl) (readA_nil)))) (by kernel_rfl) (by kernel_rfl) (by kernel_rfl) (by kernel_rfl) (F78s0_ok _ _ _ hr) (by kernel_rfl) (by kernel_rfl) (by kernel_rfl) rfl (by kernel_rfl) (by kernel_rfl) (by kernel_rfl))) (fun r2 => ?_))
    exact SimI.rd 3 (rp [2, 21, 20] (qb (!(r2)))) [] (.thenN (.ret .fn))
   ·exact SimI.rd 6 [(2, qb false), (21, qb false), (20, tz), (19, tz), (18, tz), (17, tz)] [] (.thenN (.ret .fn))
  ·exact SimI.rd 11 [(2, qb false), (21, qb false), (20, tz), (19, tz), (18, tz), (17, tz), (16, qb false), (15, qb false), (14, tz), (13, tz), (12, tz)] [] (.thenN (.ret .fn))
 ·exact SimI.rd 16 [(2, qb false), (21, qb false), (20, tz), (19, tz), (18, tz), (17, tz), (16, qb false), (15, qb false), (14, tz), (13, tz), (12, tz), (11, qb false), (10, qb false), (9, tz), (8, tz), (7, tz)] [] (.thenN (.ret .fn))
def F80_e : Bool → PV × List Ob := fun r => (.one (lb r), [])
def F80 (n : Nat) (a0 a1 : Int) : Option Bool :=
 if ¬ (IntKind.wrap .i64 (a1 + 1) < 0) then
  some ((bitsI .and .u8 (shrI .u8 a0 (IntKind.wrap .i64 (a1 + 1))) 1) == 1)
 else none
theorem F80_ok (n : Nat) (a0 a1 : Int) : ∀ r, F80 n a0 a1 = some r → D 80 [.one (li .u8 a0), .one (li .i64 a1)] [] = some (F80_e r) := by
 refine fn_to (D := D) (n := n + 8) (nt := 11) (rs := pc80_r) (c := p80c5) (L := [(0, .one (li .u8 a0)), (1, qj a1)]) (M := []) (k := 0) rfl rfl rfl rfl rfl rfl rfl ?_
 unfold F80
 exact Sim.sr 1 [(4, qb false)] [] (.st 3 [(7, qj (iw .i64 (a1 + 1))), (6, qj a1), (5, .one (li .u8 a0))] [] (.gp 8 (.bin .shr 5 false false) [5, 7] none [] (fun hc => pr_shr _ _ _ .u8 .i64 a0 (iw .i64 (a1 + 1)) hc) (.rd 3 (rp [4, 10] (qb ((bitsI .and .u8 (shrI .u8 a0 (iw .i64 (a1 + 1))) 1) == 1)) ++ [(9, .one (li .u8 (bitsI .and .u8 (shrI .u8 a0 (iw .i64 (a1 + 1))) 1)))]) [] (.thenN (.ret .fn)))))
def F73_e : Bool → PV × List Ob := fun r => (.one (lb r), [])
def F73_u15 (n : Nat) : Option Bool :=
  some true
theorem F73_u15_ok (n : Nat) (a0 : Delta) : SimL Try.prog D (n + 8) (n + 4) p73c34 [(1, qp 1 0), (40, .agg (A4_Field.cells a0.F)), (41, qj 4)] (W4 a0) (F73_u15 n) (QB 0 (QT Try.prog D (n + 8) p73c40 (QF false pc73_r 0 F73_e))) := by
  unfold F73_u15
  exact SimL.succ (.seq (.rg (w1 a0) (W4 a0) (.rd 1 [(42, qb false)] [] (.thenN (.seq (.cf (.exit (.thenX (.loopX (.blockX (.thenN (.sr 1 [(2, qb true)] [] (.ret .fn)))))))))))))
def F73_u12 (n : Nat) (a0 : Delta) : Option Bool :=
  (F62 n a0.F.a3).bind fun (r13 : Bool) =>
  if !(r13) then
   some false
  else
   (F80 n a0.Mask 3).bind fun (r14 : Bool) =>
   if !(r14) then
    if !(Field.eqb a0.F.a3 (Field.mk 0 ByteArray.empty)) then
     some false
    else
     F73_u15 n
   else
    F73_u15 n
theorem F73_u12_ok (n : Nat) (a0 : Delta) : SimL Try.prog D (n + 8) (n + 5) p73c34 [(1, qp 1 0), (40, .agg (A4_Field.cells a0.F)), (41, qj 3)] (W4 a0) (F73_u12 n a0) (QB 0 (QT Try.prog D (n + 8) p73c40 (QF false pc73_r 0 F73_e))) := by
  unfold F73_u12
  refine SimL.succ (.seq (.rg (w2 a0) (W4 a0) (.rd 1 [(42, qb true)] [] (.thenN (.seq (.ct (.skip (.thenN (.seq (.block (.sr 5 [(3, qj 3), (4, qp 4 0), (44, .agg (W15 a0)), (43, qj 3)] [(4, some (.cells (W15 a0))), (4, some (.cells [lj 0, ls be]))] (.st 1 [(45, .agg (W15 a0))] [] (.cl 46 true [[]] 62 [45] none (fun r13 => qb r13) [.agg (W15 a0)] (F62_ok _ _) (fun r13 => ?_))))))))))))))
  refine SimI.rn 2 [(48, qb (!(r13))), (47, qb (!(r13)))] [] (.sp 48 _ ?_ ?_)
  ·exact SimI.rd 11 ([(59, qb true)] ++ rp W26 tz) [] (.thenN (.ct (.sr 1 [(2, qb false)] [] (.ret (.blockR (.thenR (.loopR (.blockR (.thenR .fn)))))))))
  ·refine SimI.rn 3 [(51, qj 3), (50, .one (li .u8 a0.Mask)), (49, qp 1 1)] [] (.cl 52 true [[], []] 80 [50, 51] (some (48, false)) (fun r14 => qb r14) [.one (li .u8 a0.Mask), qj 3] (F80_ok _ _ _) (fun r14 => ?_))
   refine SimI.rn 2 [(54, qb (!(r14))), (53, qb (!(r14)))] [] (.sp 54 _ ?_ ?_)
   ·refine SimI.rn 2 [(56, .agg [lj 0, ls be]), (55, .agg (W15 a0))] [] (.se ⟨some 57, .prim (.bin .neq 51 false false) [55, 56], some (54, true), []⟩ [(57, qb (!(Field.eqb a0.F.a3 (Field.mk 0 be))))] [] (pe (ep (Field_eqn a0.F.a3 (Field.mk 0 be) _ _))) (.rd 2 (rp [59, 58] (qb (!(Field.eqb a0.F.a3 (Field.mk 0 be))))) [] (.thenN (.cd _ ?_ ?_))))
    ·exact Sim.sr 1 [(2, qb false)] [] (.ret (.blockR (.thenR (.loopR (.blockR (.thenR .fn))))))
    ·refine Sim.skip (.blockN (.thenN (.region0 (.rd 2 [(41, qj 4), (60, qj 4)] [] (.loopN (.pr [1, 40, 41] [1, 4] [] (w1 a0) (W4 a0) ?_))))))
     exact F73_u15_ok n a0
   ·refine SimI.rd 5 W13 [] (.thenN (.cf (.skip (.blockN (.thenN (.region0 (.rd 2 [(41, qj 4), (60, qj 4)] [] (.loopN (.pr [1, 40, 41] [1, 4] [] (w1 a0) (W4 a0) ?_)))))))))
    exact F73_u15_ok n a0
def F73_u9 (n : Nat) (a0 : Delta) : Option Bool :=
  (F62 n a0.F.a2).bind fun (r10 : Bool) =>
  if !(r10) then
   some false
  else
   (F80 n a0.Mask 2).bind fun (r11 : Bool) =>
   if !(r11) then
    if !(Field.eqb a0.F.a2 (Field.mk 0 ByteArray.empty)) then
     some false
    else
     F73_u12 n a0
   else
    F73_u12 n a0
theorem F73_u9_ok (n : Nat) (a0 : Delta) : SimL Try.prog D (n + 8) (n + 6) p73c34 [(1, qp 1 0), (40, .agg (A4_Field.cells a0.F)), (41, qj 2)] (W4 a0) (F73_u9 n a0) (QB 0 (QT Try.prog D (n + 8) p73c40 (QF false pc73_r 0 F73_e))) := by
  unfold F73_u9
  refine SimL.succ (.seq (.rg (w3 a0) (W4 a0) (.rd 1 [(42, qb true)] [] (.thenN (.seq (.ct (.skip (.thenN (.seq (.block (.sr 5 [(3, qj 2), (4, qp 4 0), (44, .agg (W16 a0)), (43, qj 2)] [(4, some (.cells (W16 a0))), (4, some (.cells [lj 0, ls be]))] (.st 1 [(45, .agg (W16 a0))] [] (.cl 46 true [[]] 62 [45] none (fun r10 => qb r10) [.agg (W16 a0)] (F62_ok _ _) (fun r10 => ?_))))))))))))))
  refine SimI.rn 2 [(48, qb (!(r10))), (47, qb (!(r10)))] [] (.sp 48 _ ?_ ?_)
  ·exact SimI.rd 11 ([(59, qb true)] ++ rp W26 tz) [] (.thenN (.ct (.sr 1 [(2, qb false)] [] (.ret (.blockR (.thenR (.loopR (.blockR (.thenR .fn)))))))))
  ·refine SimI.rn 3 [(51, qj 2), (50, .one (li .u8 a0.Mask)), (49, qp 1 1)] [] (.cl 52 true [[], []] 80 [50, 51] (some (48, false)) (fun r11 => qb r11) [.one (li .u8 a0.Mask), qj 2] (F80_ok _ _ _) (fun r11 => ?_))
   refine SimI.rn 2 [(54, qb (!(r11))), (53, qb (!(r11)))] [] (.sp 54 _ ?_ ?_)
   ·refine SimI.rn 2 [(56, .agg [lj 0, ls be]), (55, .agg (W16 a0))] [] (.se ⟨some 57, .prim (.bin .neq 51 false false) [55, 56], some (54, true), []⟩ [(57, qb (!(Field.eqb a0.F.a2 (Field.mk 0 be))))] [] (pe (ep (Field_eqn a0.F.a2 (Field.mk 0 be) _ _))) (.rd 2 (rp [59, 58] (qb (!(Field.eqb a0.F.a2 (Field.mk 0 be))))) [] (.thenN (.cd _ ?_ ?_))))
    ·exact Sim.sr 1 [(2, qb false)] [] (.ret (.blockR (.thenR (.loopR (.blockR (.thenR .fn))))))
    ·refine Sim.skip (.blockN (.thenN (.region0 (.rd 2 [(41, qj 3), (60, qj 3)] [] (.loopN (.pr [1, 40, 41] [1, 4] [] (w2 a0) (W4 a0) ?_))))))
     exact F73_u12_ok n a0
   ·refine SimI.rd 5 W13 [] (.thenN (.cf (.skip (.blockN (.thenN (.region0 (.rd 2 [(41, qj 3), (60, qj 3)] [] (.loopN (.pr [1, 40, 41] [1, 4] [] (w2 a0) (W4 a0) ?_)))))))))
    exact F73_u12_ok n a0
def F73_u6 (n : Nat) (a0 : Delta) : Option Bool :=
  (F62 n a0.F.a1).bind fun (r7 : Bool) =>
  if !(r7) then
   some false
  else
   (F80 n a0.Mask 1).bind fun (r8 : Bool) =>
   if !(r8) then
    if !(Field.eqb a0.F.a1 (Field.mk 0 ByteArray.empty)) then
     some false
    else
     F73_u9 n a0
   else
    F73_u9 n a0
theorem F73_u6_ok (n : Nat) (a0 : Delta) : SimL Try.prog D (n + 8) (n + 7) p73c34 [(1, qp 1 0), (40, .agg (A4_Field.cells a0.F)), (41, qj 1)] (W4 a0) (F73_u6 n a0) (QB 0 (QT Try.prog D (n + 8) p73c40 (QF false pc73_r 0 F73_e))) := by
  unfold F73_u6
  refine SimL.succ (.seq (.rg (w4 a0) (W4 a0) (.rd 1 [(42, qb true)] [] (.thenN (.seq (.ct (.skip (.thenN (.seq (.block (.sr 5 [(3, qj 1), (4, qp 4 0), (44, .agg (W17 a0)), (43, qj 1)] [(4, some (.cells (W17 a0))), (4, some (.cells [lj 0, ls be]))] (.st 1 [(45, .agg (W17 a0))] [] (.cl 46 true [[]] 62 [45] none (fun r7 => qb r7) [.agg (W17 a0)] (F62_ok _ _) (fun r7 => ?_))))))))))))))
  refine SimI.rn 2 [(48, qb (!(r7))), (47, qb (!(r7)))] [] (.sp 48 _ ?_ ?_)
  ·exact SimI.rd 11 ([(59, qb true)] ++ rp W26 tz) [] (.thenN (.ct (.sr 1 [(2, qb false)] [] (.ret (.blockR (.thenR (.loopR (.blockR (.thenR .fn)))))))))
  ·refine SimI.rn 3 [(51, qj 1), (50, .one (li .u8 a0.Mask)), (49, qp 1 1)] [] (.cl 52 true [[], []] 80 [50, 51] (some (48, false)) (fun r8 => qb r8) [.one (li .u8 a0.Mask), qj 1] (F80_ok _ _ _) (fun r8 => ?_))
   refine SimI.rn 2 [(54, qb (!(r8))), (53, qb (!(r8)))] [] (.sp 54 _ ?_ ?_)
   ·refine SimI.rn 2 [(56, .agg [lj 0, ls be]), (55, .agg (W17 a0))] [] (.se ⟨some 57, .prim (.bin .neq 51 false false) [55, 56], some (54, true), []⟩ [(57, qb (!(Field.eqb a0.F.a1 (Field.mk 0 be))))] [] (pe (ep (Field_eqn a0.F.a1 (Field.mk 0 be) _ _))) (.rd 2 (rp [59, 58] (qb (!(Field.eqb a0.F.a1 (Field.mk 0 be))))) [] (.thenN (.cd _ ?_ ?_))))
    ·exact Sim.sr 1 [(2, qb false)] [] (.ret (.blockR (.thenR (.loopR (.blockR (.thenR .fn))))))
    ·refine Sim.skip (.blockN (.thenN (.region0 (.rd 2 [(41, qj 2), (60, qj 2)] [] (.loopN (.pr [1, 40, 41] [1, 4] [] (w3 a0) (W4 a0) ?_))))))
     exact F73_u9_ok n a0
   ·refine SimI.rd 5 W13 [] (.thenN (.cf (.skip (.blockN (.thenN (.region0 (.rd 2 [(41, qj 2), (60, qj 2)] [] (.loopN (.pr [1, 40, 41] [1, 4] [] (w3 a0) (W4 a0) ?_)))))))))
    exact F73_u9_ok n a0
def F73_j3 (n : Nat) (a0 : Delta) : Option Bool :=
  (F62 n a0.F.a0).bind fun (r4 : Bool) =>
  if !(r4) then
   some false
  else
   (F80 n a0.Mask 0).bind fun (r5 : Bool) =>
   if !(r5) then
    if !(Field.eqb a0.F.a0 (Field.mk 0 ByteArray.empty)) then
     some false
    else
     F73_u6 n a0
   else
    F73_u6 n a0
theorem F73_j3_ok (n : Nat) (a0 : Delta) : Sim Try.prog D (n + 8) p73c41 [(1, qp 1 0)] (W4 a0) (F73_j3 n a0) (QF false pc73_r 0 F73_e) := by
  unfold F73_j3
  refine Sim.seq (.seq (.rs (.rd 3 [(41, qj 0), (40, .agg (A4_Field.cells a0.F)), (39, qp 1 4)] [] (.thenN (.block (.loop (.succ (.seq (.rg [(1, qp 1 0), (40, .agg (A4_Field.cells a0.F)), (41, qj 0)] (W4 a0) (.rd 1 [(42, qb true)] [] (.thenN (.seq (.ct (.skip (.thenN (.seq (.block (.sr 5 [(3, qj 0), (4, qp 4 0), (44, .agg (W18 a0)), (43, qj 0)] [(4, some (.cells (W18 a0))), (4, some (.cells [lj 0, ls be]))] (.st 1 [(45, .agg (W18 a0))] [] (.cl 46 true [[]] 62 [45] none (fun r4 => qb r4) [.agg (W18 a0)] (F62_ok _ _) (fun r4 => ?_)))))))))))))))))))))
  refine SimI.rn 2 [(48, qb (!(r4))), (47, qb (!(r4)))] [] (.sp 48 _ ?_ ?_)
  ·exact SimI.rd 11 ([(59, qb true)] ++ rp W26 tz) [] (.thenN (.ct (.sr 1 [(2, qb false)] [] (.ret (.blockR (.thenR (.loopR (.blockR (.thenR .fn)))))))))
  ·refine SimI.rn 3 [(51, qj 0), (50, .one (li .u8 a0.Mask)), (49, qp 1 1)] [] (.cl 52 true [[], []] 80 [50, 51] (some (48, false)) (fun r5 => qb r5) [.one (li .u8 a0.Mask), qj 0] (F80_ok _ _ _) (fun r5 => ?_))
   refine SimI.rn 2 [(54, qb (!(r5))), (53, qb (!(r5)))] [] (.sp 54 _ ?_ ?_)
   ·refine SimI.rn 2 [(56, .agg [lj 0, ls be]), (55, .agg (W18 a0))] [] (.se ⟨some 57, .prim (.bin .neq 51 false false) [55, 56], some (54, true), []⟩ [(57, qb (!(Field.eqb a0.F.a0 (Field.mk 0 be))))] [] (pe (ep (Field_eqn a0.F.a0 (Field.mk 0 be) _ _))) (.rd 2 (rp [59, 58] (qb (!(Field.eqb a0.F.a0 (Field.mk 0 be))))) [] (.thenN (.cd _ ?_ ?_))))
    ·exact Sim.sr 1 [(2, qb false)] [] (.ret (.blockR (.thenR (.loopR (.blockR (.thenR .fn))))))
    ·refine Sim.skip (.blockN (.thenN (.region0 (.rd 2 [(41, qj 1), (60, qj 1)] [] (.loopN (.pr [1, 40, 41] [1, 4] [] (w4 a0) (W4 a0) ?_))))))
     exact F73_u6_ok n a0
   ·refine SimI.rd 5 W13 [] (.thenN (.cf (.skip (.blockN (.thenN (.region0 (.rd 2 [(41, qj 1), (60, qj 1)] [] (.loopN (.pr [1, 40, 41] [1, 4] [] (w4 a0) (W4 a0) ?_)))))))))
    exact F73_u6_ok n a0
def F73 (n : Nat) (a0 : Delta) : Option Bool :=
 if decide (a0.ID < 0) then
  some false
 else
  if decide ((1000000 : Int) < a0.ID) then
   some false
  else
   if a0.Mask == 0 then
    some false
   else
    if decide ((31 : Int) < a0.Mask) then
     some false
    else
     if (bitsI .and .u8 a0.Mask 1) == 0 then
      if !(Point.eqb a0.At (Point.mk 0 0)) then
       some false
      else
       (F77 n a0.At).bind fun (r1 : Bool) =>
       if !(r1) then
        some false
       else
        F73_j3 n a0
     else
      (F77 n a0.At).bind fun (r2 : Bool) =>
      if !(r2) then
       some false
      else
       F73_j3 n a0
theorem F73_ok (n : Nat) (a0 : Delta) : ∀ r, F73 n a0 = some r → D 73 [.agg (Delta.cells a0)] [] = some (F73_e r) := by
 refine fn_to (D := D) (n := n + 8) (nt := 61) (rs := pc73_r) (c := p73c44) (L := [(0, .agg (Delta.cells a0))]) (M := []) (k := 0) rfl rfl rfl rfl rfl rfl rfl ?_
 unfold F73
 refine Sim.sr 2 W19 (W4 a0) (.seq (.st 4 (rp [8, 7] (qb (decide (a0.ID < 0))) ++ [(6, qj a0.ID), (5, qp 1 0)]) [] (.sp 8 _ ?_ ?_)))
 ·exact SimI.rd 14 [(22, qb true), (21, tz), (20, tz), (19, tz), (18, qb true), (17, qb true), (16, tz), (15, tz), (14, tz), (13, qb true), (12, qb true), (11, tz), (10, tz), (9, tz)] [] (.thenN (.ct (.sr 1 [(2, qb false)] [] (.ret (.thenR .fn)))))
 ·refine SimI.rn 5 (rp [13, 12, 11] (qb (decide ((1000000 : Int) < a0.ID))) ++ [(10, qj a0.ID), (9, qp 1 0)]) [] (.sp 13 _ ?_ ?_)
  ·exact SimI.rd 9 [(22, qb true), (21, tz), (20, tz), (19, tz), (18, qb true), (17, qb true), (16, tz), (15, tz), (14, tz)] [] (.thenN (.ct (.sr 1 [(2, qb false)] [] (.ret (.thenR .fn)))))
  ·refine SimI.rn 5 (rp [18, 17, 16] (qb (a0.Mask == 0)) ++ [(15, .one (li .u8 a0.Mask)), (14, qp 1 1)]) [] (.sp 18 _ ?_ ?_)
   ·exact SimI.rd 4 [(22, qb true), (21, tz), (20, tz), (19, tz)] [] (.thenN (.ct (.sr 1 [(2, qb false)] [] (.ret (.thenR .fn)))))
   ·refine SimI.rd 4 (rp [22, 21] (qb (decide ((31 : Int) < a0.Mask))) ++ [(20, .one (li .u8 a0.Mask)), (19, qp 1 1)]) [] (.thenN (.cd _ ?_ ?_))
    ·exact Sim.sr 1 [(2, qb false)] [] (.ret (.thenR .fn))
    ·refine Sim.skip (.thenN (.seq (.st 5 (rp [27, 26] (qb ((bitsI .and .u8 a0.Mask 1) == 0)) ++ [(25, .one (li .u8 (bitsI .and .u8 a0.Mask 1))), (24, .one (li .u8 a0.Mask)), (23, qp 1 1)]) [] (.sp 27 _ ?_ ?_))))
     ·refine SimI.rn 3 [(30, .agg [lj 0, lj 0]), (29, .agg [lj a0.At.X, lj a0.At.Y]), (28, qp 1 2)] [] (.se ⟨some 31, .prim (.bin .neq 49 false false) [29, 30], some (27, true), []⟩ [(31, qb (!(Point.eqb a0.At (Point.mk 0 0))))] [] (pe (ep (Point_eqn a0.At (Point.mk 0 0) _ _))) (.rn 2 (rp [33, 32] (qb (!(Point.eqb a0.At (Point.mk 0 0))))) [] (.sp 33 _ ?_ ?_)))
      ·exact SimI.rd 5 [(38, qb true), (37, tz), (36, tz), (35, tz), (34, tz)] [] (.thenN (.ct (.sr 1 [(2, qb false)] [] (.ret (.thenR .fn)))))
      ·refine SimI.rn 2 [(35, .agg [lj a0.At.X, lj a0.At.Y]), (34, qp 1 2)] [] (.cl 36 true [[]] 77 [35] (some (33, false)) (fun r1 => qb r1) [.agg [lj a0.At.X, lj a0.At.Y]] (F77_ok _ _) (fun r1 => ?_))
       refine SimI.rd 2 [(38, qb (!(r1))), (37, qb (!(r1)))] [] (.thenN (.cd _ ?_ ?_))
       ·exact Sim.sr 1 [(2, qb false)] [] (.ret (.thenR .fn))
       ·refine Sim.skip (.thenN (.pr [1] [1] [] [(1, qp 1 0)] (W4 a0) ?_))
        exact F73_j3_ok n a0
     ·refine SimI.rn 8 [(35, .agg [lj a0.At.X, lj a0.At.Y]), (34, qp 1 2), (33, qb false), (32, qb false), (31, tz), (30, tz), (29, tz), (28, tz)] [] (.cl 36 true [[]] 77 [35] (some (33, false)) (fun r2 => qb r2) [.agg [lj a0.At.X, lj a0.At.Y]] (F77_ok _ _) (fun r2 => ?_))
      refine SimI.rd 2 [(38, qb (!(r2))), (37, qb (!(r2)))] [] (.thenN (.cd _ ?_ ?_))
      ·exact Sim.sr 1 [(2, qb false)] [] (.ret (.thenR .fn))
      ·refine Sim.skip (.thenN (.pr [1] [1] [] [(1, qp 1 0)] (W4 a0) ?_))
       exact F73_j3_ok n a0
def F57_e : Bool → PV × List Ob := fun r => (.one (lb r), [])
def F57 (n : Nat) (a0 : Event) : Option Bool :=
 if a0.Kind == 1 then
  (F72 n a0.Thing).bind fun (r1 : Bool) =>
  if r1 then
   if a0.ID == a0.Thing.ID then
    some (Delta.eqb a0.Delta (Delta.mk 0 0 (Point.mk 0 0) (A4.mk (Field.mk 0 ByteArray.empty) (Field.mk 0 ByteArray.empty) (Field.mk 0 ByteArray.empty) (Field.mk 0 ByteArray.empty))))
   else
    some false
  else
   some false
 else
  if a0.Kind == 2 then
   (F73 n a0.Delta).bind fun (r2 : Bool) =>
   if r2 then
    if a0.ID == a0.Delta.ID then
     some (Thing.eqb a0.Thing (Thing.mk 0 (Point.mk 0 0) (A4.mk (Field.mk 0 ByteArray.empty) (Field.mk 0 ByteArray.empty) (Field.mk 0 ByteArray.empty) (Field.mk 0 ByteArray.empty))))
    else
     some false
   else
    some false
  else
   if a0.Kind == 3 then
    if decide ((0 : Int) ≤ a0.ID) then
     if decide (a0.ID ≤ 1000000) then
      if Thing.eqb a0.Thing (Thing.mk 0 (Point.mk 0 0) (A4.mk (Field.mk 0 ByteArray.empty) (Field.mk 0 ByteArray.empty) (Field.mk 0 ByteArray.empty) (Field.mk 0 ByteArray.empty))) then
       some (Delta.eqb a0.Delta (Delta.mk 0 0 (Point.mk 0 0) (A4.mk (Field.mk 0 ByteArray.empty) (Field.mk 0 ByteArray.empty) (Field.mk 0 ByteArray.empty) (Field.mk 0 ByteArray.empty))))
      else
       some false
     else
      some false
    else
     some false
   else
    some false
theorem F57_ok (n : Nat) (a0 : Event) : ∀ r, F57 n a0 = some r → D 57 [.agg (Event.cells a0)] [] = some (F57_e r) := by
 refine fn_to (D := D) (n := n + 8) (nt := 63) (rs := pc57_r) (c := p57c30) (L := [(0, .agg (Event.cells a0))]) (M := []) (k := 0) rfl rfl rfl rfl rfl rfl rfl ?_
 unfold F57
 refine Sim.sr 2 W19 [(1, some (.cells (Event.cells a0)))] (.st 3 [(7, .agg W35), (6, .agg (Thing.cells a0.Thing)), (5, qp 1 2)] [] (.se ⟨some 8, .prim (.bin .eql 54 false false) [6, 7], none, [(6, .imm), (7, .imm)]⟩ [(8, qb (Thing.eqb a0.Thing (Thing.mk 0 (Point.mk 0 0) (A4.mk (Field.mk 0 be) (Field.mk 0 be) (Field.mk 0 be) (Field.mk 0 be)))))] [] (pe (ep (Thing_eql a0.Thing (Thing.mk 0 (Point.mk 0 0) (A4.mk (Field.mk 0 be) (Field.mk 0 be) (Field.mk 0 be) (Field.mk 0 be))) _ _))) (.rn 3 [(11, .agg [lj 0, li .u8 0, lj 0, lj 0, lj 0, ls be, lj 0, ls be, lj 0, ls be, lj 0, ls be]), (10, .agg (Delta.cells a0.Delta)), (9, qp 1 13)] [] (.se ⟨some 12, .prim (.bin .eql 56 false false) [10, 11], none, [(10, .imm), (11, .imm)]⟩ [(12, qb (Delta.eqb a0.Delta (Delta.mk 0 0 (Point.mk 0 0) (A4.mk (Field.mk 0 be) (Field.mk 0 be) (Field.mk 0 be) (Field.mk 0 be)))))] [] (pe (ep (Delta_eql a0.Delta (Delta.mk 0 0 (Point.mk 0 0) (A4.mk (Field.mk 0 be) (Field.mk 0 be) (Field.mk 0 be) (Field.mk 0 be))) _ _))) (.rd 2 [(4, qb (Delta.eqb a0.Delta (Delta.mk 0 0 (Point.mk 0 0) (A4.mk (Field.mk 0 be) (Field.mk 0 be) (Field.mk 0 be) (Field.mk 0 be))))), (3, qb (Thing.eqb a0.Thing (Thing.mk 0 (Point.mk 0 0) (A4.mk (Field.mk 0 be) (Field.mk 0 be) (Field.mk 0 be) (Field.mk 0 be)))))] [] (.thenN (.seq (.sr 2 [(14, qj a0.Kind), (13, qp 1 0)] [] (.block (.sr 2 (rp [15, 16] (qb (a0.Kind == 1))) [] (.cd _ ?_ ?_)))))))))))
 ·refine Sim.st 2 [(18, .agg (Thing.cells a0.Thing)), (17, qp 1 2)] [] (.cl 19 true [[]] 72 [18] none (fun r1 => qb r1) [.agg (Thing.cells a0.Thing)] (F72_ok _ _) (fun r1 => ?_))
  refine SimI.rn 1 [(20, qb r1)] [] (.sp 20 _ ?_ ?_)
  ·refine SimI.rn 8 (rp [28, 27, 26] (qb (a0.ID == a0.Thing.ID)) ++ [(25, qj a0.Thing.ID), (24, qp 1 2), (23, qp 1 2), (22, qj a0.ID), (21, qp 1 1)]) [] (.sp 28 _ ?_ ?_)
   ·exact SimI.rd 3 (rp [2, 30, 29] (qb (Delta.eqb a0.Delta (Delta.mk 0 0 (Point.mk 0 0) (A4.mk (Field.mk 0 be) (Field.mk 0 be) (Field.mk 0 be) (Field.mk 0 be)))))) [] (.thenN (.ret (.blockR (.thenR .fn))))
   ·exact SimI.rd 3 [(2, qb false), (30, qb false), (29, tz)] [] (.thenN (.ret (.blockR (.thenR .fn))))
  ·exact SimI.rd 11 ([(2, qb false), (30, qb false), (29, tz), (28, qb false), (27, qb false)] ++ rp [26, 25, 24, 23, 22, 21] tz) [] (.thenN (.ret (.blockR (.thenR .fn))))
 ·refine Sim.sr 2 (rp [31, 32] (qb (a0.Kind == 2))) [] (.cd _ ?_ ?_)
  ·refine Sim.st 2 [(34, .agg (Delta.cells a0.Delta)), (33, qp 1 13)] [] (.cl 35 true [[]] 73 [34] none (fun r2 => qb r2) [.agg (Delta.cells a0.Delta)] (F73_ok _ _) (fun r2 => ?_))
   refine SimI.rn 1 [(36, qb r2)] [] (.sp 36 _ ?_ ?_)
   ·refine SimI.rn 8 (rp [44, 43, 42] (qb (a0.ID == a0.Delta.ID)) ++ [(41, qj a0.Delta.ID), (40, qp 1 13), (39, qp 1 13), (38, qj a0.ID), (37, qp 1 1)]) [] (.sp 44 _ ?_ ?_)
    ·exact SimI.rd 3 (rp [2, 46, 45] (qb (Thing.eqb a0.Thing (Thing.mk 0 (Point.mk 0 0) (A4.mk (Field.mk 0 be) (Field.mk 0 be) (Field.mk 0 be) (Field.mk 0 be)))))) [] (.thenN (.ret (.blockR (.thenR .fn))))
    ·exact SimI.rd 3 [(2, qb false), (46, qb false), (45, tz)] [] (.thenN (.ret (.blockR (.thenR .fn))))
   ·exact SimI.rd 11 ([(2, qb false), (46, qb false), (45, tz), (44, qb false), (43, qb false)] ++ rp [42, 41, 40, 39, 38, 37] tz) [] (.thenN (.ret (.blockR (.thenR .fn))))
  ·refine Sim.sr 2 (rp [47, 48] (qb (a0.Kind == 3))) [] (.cd _ ?_ ?_)
   ·refine Sim.st 4 (rp [52, 51] (qb (decide ((0 : Int) ≤ a0.ID))) ++ [(50, qj a0.ID), (49, qp 1 1)]) [] (.sp 52 _ ?_ ?_)
    ·refine SimI.rn 5 (rp [57, 56, 55] (qb (decide (a0.ID ≤ 1000000))) ++ [(54, qj a0.ID), (53, qp 1 1)]) [] (.sp 57 _ ?_ ?_)
     ·refine SimI.rn 3 (rp [60, 59, 58] (qb (Thing.eqb a0.Thing (Thing.mk 0 (Point.mk 0 0) (A4.mk (Field.mk 0 be) (Field.mk 0 be) (Field.mk 0 be) (Field.mk 0 be)))))) [] (.sp 60 _ ?_ ?_)
      ·exact SimI.rd 3 (rp [2, 62, 61] (qb (Delta.eqb a0.Delta (Delta.mk 0 0 (Point.mk 0 0) (A4.mk (Field.mk 0 be) (Field.mk 0 be) (Field.mk 0 be) (Field.mk 0 be)))))) [] (.thenN (.ret (.blockR (.thenR .fn))))
      ·exact SimI.rd 3 [(2, qb false), (62, qb false), (61, tz)] [] (.thenN (.ret (.blockR (.thenR .fn))))
     ·exact SimI.rd 6 [(2, qb false), (62, qb false), (61, tz), (60, qb false), (59, qb false), (58, tz)] [] (.thenN (.ret (.blockR (.thenR .fn))))
    ·exact SimI.rd 11 [(2, qb false), (62, qb false), (61, tz), (60, qb false), (59, qb false), (58, tz), (57, qb false), (56, qb false), (55, tz), (54, tz), (53, tz)] [] (.thenN (.ret (.blockR (.thenR .fn))))
   ·exact Sim.skip (.blockN (.thenN (.sr 1 [(2, qb false)] [] (.ret .fn))))
def F56_e : Bool → PV × List Ob := fun r => (.one (lb r), [])
def F56 (n : Nat) (a0 : Event) : Option Bool :=
 (F57 n a0).bind fun (r1 : Bool) =>
 some (!(r1))
theorem F56_ok (n : Nat) (a0 : Event) : ∀ r, F56 n a0 = some r → D 56 [.agg (Event.cells a0)] [] = some (F56_e r) := by
 refine fn_to (D := D) (n := n + 8) (nt := 6) (rs := pc56_r) (c := p56c5) (L := [(0, .agg (Event.cells a0))]) (M := []) (k := 0) rfl rfl rfl rfl rfl rfl rfl ?_
 unfold F56
 refine Sim.sr 2 W19 [(1, some (.cells (Event.cells a0)))] (.st 1 [(3, .agg (Event.cells a0))] [] (.cl 4 true [[]] 57 [3] none (fun r1 => qb r1) [.agg (Event.cells a0)] (F57_ok _ _) (fun r1 => ?_)))
 exact SimI.rd 2 [(2, qb (!(r1))), (5, qb (!(r1)))] [] (.thenN (.ret .fn))
def F71s0_e (a0 : (List Event)) : Int → PV × List Ob := fun r => (.one (li .i64 r), [])
def F71s0_l4 (n : Nat) (a0 : (List Event)) : Nat → Int → Option Int
 | 0, _ => none
 | m + 1, i3 =>
  if decide (i3 < ((a0).length : Int)) then
   (ix a0 i3).bind fun (x5 : Event) =>
   (F56 n x5).bind fun (r6 : Bool) =>
   if r6 then
    some i3
   else
    (F71s0_l4 n a0 m) (IntKind.wrap .i64 (i3 + 1))
  else
   some (-1)
theorem F71s0_l4_ok (n : Nat) (a0 : (List Event)) : ∀ (m : Nat) (i3 : Int), SimL Try.prog D (n + 8) m p71c20 [(0, .one (vw Event.cod a0)), (1, .one (.val (.func (.func 56) #[] #[]))), (7, qj ((a0).length : Int)), (8, qj i3)] [] (F71s0_l4 n a0 m i3) (QB 0 (QT Try.prog D (n + 8) p71c26 (QF false pc71_r 0 (F71s0_e a0)))) := by
 intro m_l4
 induction m_l4 with
 | zero => intro i3; exact SimL.zero'  rfl
 | succ m_l4 ih_l4 =>
  intro i3
  refine SimL.succ ?_
  unfold F71s0_l4
  refine Sim.seq (.rg [(0, .one (vw Event.cod a0)), (1, .one (.val (.func (.func 56) #[] #[]))), (7, qj ((a0).length : Int)), (8, qj i3)] [] (.rd 1 [(9, qb (decide (i3 < ((a0).length : Int))))] [] (.thenN (.seq (.cd _ ?_ ?_)))))
  ·refine Sim.skip (.thenN (.seq (.block (.sr 2 [(5, qj i3), (10, qj i3)] [] (.st 3 [(13, qj i3), (12, .one (vw Event.cod a0)), (11, .one (.val (.func (.func 56) #[] #[])))] [] (.bn ⟨some 14, .iaddrS 25 12 13, none, []⟩ (fun x5 => [(14, .one (.eptr (Event.cod.enc x5) 0))]) (fun x5 => []) (fun x5 hr => pe (ei (c := Event.cod) (k := .i64) hr)) (fun x5 => ?_)))))))
   refine SimI.rn 1 [(15, .agg (Event.cells x5))] [] (.bn ⟨some 16, .callv true [[]] 11 [15], none, []⟩ (fun r6 => [(16, qb r6)]) (fun r6 => []) (fun r6 hr => pe (eff_callvv (by kernel_rfl) (ARGS := [.agg (Event.cells x5)]) (by kernel_rfl) (args_clean (by kernel_rfl) args_nil) (F56_ok _ _ _ hr) (by kernel_rfl))) (fun r6 => ?_))
   refine SimI.dn (.thenN (.cd _ ?_ ?_))
   ·exact Sim.sr 2 [(4, qj i3), (17, qj i3)] [] (.ret (.blockR (.thenR (.loopR (.blockR (.thenR .fn))))))
   ·refine Sim.skip (.blockN (.thenN (.region0 (.rd 2 (rp [8, 18] (qj (iw .i64 (i3 + 1)))) [] (.loopN (.pr [0, 1, 7, 8] [] [] [(0, .one (vw Event.cod a0)), (1, .one (.val (.func (.func 56) #[] #[]))), (7, qj ((a0).length : Int)), (8, qj (iw .i64 (i3 + 1)))] [] ?_))))))
    exact ih_l4 (iw .i64 (i3 + 1))
  ·exact Sim.exit (.thenX (.loopX (.blockX (.thenN (.sr 1 [(4, qj (-1))] [] (.ret .fn))))))
def F71s0 (n : Nat) (a0 : (List Event)) : Option Int :=
 F71s0_l4 n a0 (n + 8) 0
theorem F71s0_ok (n : Nat) (a0 : (List Event)) : ∀ r, F71s0 n a0 = some r → D 71 [.one (vw Event.cod a0), .one (.val (.func (.func 56) #[] #[]))] [] = some ((F71s0_e a0) r) := by
 refine fn_to (D := D) (n := n + 8) (nt := 19) (rs := pc71_r) (c := p71c28) (L := [(0, .one (vw Event.cod a0)), (1, .one (.val (.func (.func 56) #[] #[])))]) (M := []) (k := 0) rfl rfl rfl rfl rfl rfl rfl ?_
 unfold F71s0
 refine Sim.sr 1 [(4, qj 0)] [] (.seq (.sr 3 [(8, qj 0), (7, qj ((a0).length : Int)), (6, .one (vw Event.cod a0))] [] (.block (.loop (.pr [0, 1, 7, 8] [] [] [(0, .one (vw Event.cod a0)), (1, .one (.val (.func (.func 56) #[] #[]))), (7, qj ((a0).length : Int)), (8, qj 0)] [] ?_)))))
 exact F71s0_l4_ok n a0 (n + 8) 0
def F55s0_e (a0 : (List Event)) : Bool → PV × List Ob := fun r => (.one (lb r), [])
def F55s0 (n : Nat) (a0 : (List Event)) : Option Bool :=
 (F71s0 n a0).bind fun (r1 : Int) =>
 some (decide ((0 : Int) ≤ r1))
theorem F55s0_ok (n : Nat) (a0 : (List Event)) : ∀ r, F55s0 n a0 = some r → D 55 [.one (vw Event.cod a0), .one (.val (.func (.func 56) #[] #[]))] [] = some ((F55s0_e a0) r) := by
 refine fn_to (D := D) (n := n + 8) (nt := 9) (rs := pc55_r) (c := p55c5) (L := [(0, .one (vw Event.cod a0)), (1, .one (.val (.func (.func 56) #[] #[])))]) (M := []) (k := 0) rfl rfl rfl rfl rfl rfl rfl ?_
 unfold F55s0
 refine Sim.sr 1 [(4, qb false)] [] (.st 2 [(6, .one (.val (.func (.func 56) #[] #[]))), (5, .one (vw Event.cod a0))] [] (.bn ⟨some 7, .gcall false false W3 [[(0, 25)], []] 71 [5, 6], none, []⟩ (fun r1 => [(7, qj r1)]) (fun r1 => []) (fun r1 hr => pe (gq (ks := []) (ARGS := [.one (vw Event.cod a0), .one (.val (.func (.func 56) #[] #[]))]) (F71s0_ok _ _ _ hr))) (fun r1 => ?_)))
 exact SimI.rd 2 (rp [4, 8] (qb (decide ((0 : Int) ≤ r1)))) [] (.thenN (.ret .fn))
def F44_e : (Bool × View) → PV × List Ob := fun r => (.one (lb r.1), [.cells [li .i64 r.2.client, li .i64 r.2.session, li .i64 r.2.n, li .i64 r.2.beat, li .i64 r.2.start, vw Thing.cod r.2.things, .osl 1000001 1 0 (r.2.log_).length, .mp 1000002], .arr 58 Event.cod.sz 1 (r.2.log_).length (getOf Event.cod r.2.log_), .map (mapOf Key.cells Event.cod r.2.wait)])
def F44_j1 (n : Nat) (a0 : View) (a1 : Frame) : Option (Bool × View) :=
  if decide (a1.Beat ≤ a0.beat) then
   some (false, a0)
  else
   if decide ((36 : Int) < IntKind.wrap .i64 (a1.Beat - imax a1.Start a0.beat)) then
    some (false, a0)
   else
    if mhas (Key.mk a1.From a1.Beat) a0.wait then
     some (false, a0)
    else
     (F55s0 n a1.Events).bind fun (r2 : Bool) =>
     some (!(r2), a0)
theorem F44_j1_ok (n : Nat) (a0 : View) (a1 : Frame) : Sim Try.prog D (n + 8) p44c16 W34 [(3, some (.cells [lj a1.From, lj a1.Client, lj a1.Session, lj a1.Start, lj a1.Beat, vw Event.cod a1.Events])), (1000000, some (.cells (W5 a0))), (1000001, some (.arr 58 Event.cod.sz 1 (a0.log_).length (getOf Event.cod a0.log_))), (1000002, some (.map (mapOf Key.cells Event.cod a0.wait)))] (F44_j1 n a0 a1) (QB 0 (QT Try.prog D (n + 8) p44c34 (QF false pc44_r 3 F44_e))) := by
  unfold F44_j1
  refine Sim.seq (.rg W34 [(3, some (.cells (w0 a1))), (1000000, some (.cells (W5 a0))), (1000001, some (.arr 58 Event.cod.sz 1 (a0.log_).length (getOf Event.cod a0.log_))), (1000002, some (.map (mapOf Key.cells Event.cod a0.wait)))] (.rn 8 (rp [73, 72] (qb (decide (a1.Beat ≤ a0.beat))) ++ [(71, qj a0.beat), (70, qp 1000000 3), (69, qp 1000000 0), (68, qp 1000000 0), (67, qj a1.Beat), (66, qp 3 4)]) [] (.sp 73 _ ?_ ?_)))
  ·exact SimI.rd 13 ([(65, qb true), (85, qb true)] ++ rp [84, 83, 82, 81, 80, 79, 78, 77, 76, 75, 74] tz) [] (.thenN (.ct (.sr 1 [(4, qb false)] [] (.ret (.blockR (.thenR .fn))))))
  ·refine SimI.rd 13 (rp [65, 85, 84] (qb (decide ((36 : Int) < IntKind.wrap .i64 (a1.Beat - imax a1.Start a0.beat)))) ++ [(83, qj (iw .i64 (a1.Beat - imax a1.Start a0.beat))), (82, qj (imax a1.Start a0.beat)), (81, qj a0.beat), (80, qp 1000000 3), (79, qp 1000000 0), (78, qp 1000000 0), (77, qj a1.Start), (76, qp 3 3), (75, qj a1.Beat), (74, qp 3 4)]) [] (.thenN (.cd _ ?_ ?_))
   ·exact Sim.sr 1 [(4, qb false)] [] (.ret (.blockR (.thenR .fn)))
   ·refine Sim.skip (.blockN (.thenN (.seq (.st 9 [(95, .agg [lj a1.From, lj a1.Beat]), (94, qj a1.Beat), (93, qp 3 4), (92, qj a1.From), (91, qp 3 0), (90, .one (.mp 1000002)), (89, qp 1000000 7), (88, qp 1000000 0), (87, qp 1000000 0)] [] (.se ⟨some 96, .mlook true 97 [(0, 25)] 90 95, none, [(90, Hint.obj 1000002), (95, .imm)]⟩ [(96, .tup (W37 a1 a0))] [] (pe (eff_mlook (sz := 25) (c := Event.cod) Key_map (m := 1000002) (l := a0.wait) (key := (Key.mk a1.From a1.Beat)) (by kernel_rfl) (by kernel_rfl) (by kernel_rfl) (by kernel_rfl) true)) (.rd 5 [(6, qb (mhas (Key.mk a1.From a1.Beat) a0.wait)), (5, .one (vw Event.cod (mget (Key.mk a1.From a1.Beat) a0.wait))), (98, qb (mhas (Key.mk a1.From a1.Beat) a0.wait)), (97, .one (vw Event.cod (mget (Key.mk a1.From a1.Beat) a0.wait))), (86, .tup (W37 a1 a0))] [] (.thenN (.sr 1 [(99, qb (mhas (Key.mk a1.From a1.Beat) a0.wait))] [] (.cd _ ?_ ?_)))))))))
    ·exact Sim.sr 1 [(4, qb false)] [] (.ret (.thenR .fn))
    ·refine Sim.skip (.thenN (.st 2 [(101, .one (vw Event.cod a1.Events)), (100, qp 3 5)] [] (.bn ⟨some 102, .gcall false false W3 [[(0, 25)], []] 55 [101, Operand.func 56], none, []⟩ (fun r2 => [(102, qb r2)]) (fun r2 => []) (fun r2 hr => pe (gq (ks := []) (ARGS := [.one (vw Event.cod a1.Events), .one (.val (.func (.func 56) #[] #[]))]) (F55s0_ok _ _ _ hr))) (fun r2 => ?_))))
     exact SimI.rd 2 [(4, qb (!(r2))), (103, qb (!(r2)))] [] (.thenN (.ret .fn))
def F44 (n : Nat) (a0 : View) (a1 : Frame) : Option (Bool × View) :=
 if a1.Client != a0.client then
  some (false, a0)
 else
  if a1.Session != a0.session then
   some (false, a0)
  else
   if decide (a1.From < 0) then
    some (false, a0)
   else
    if decide (a0.n ≤ a1.From) then
     some (false, a0)
    else
     if decide (a1.Start < 0) then
      some (false, a0)
     else
      if decide (a1.Beat < a1.Start) then
       some (false, a0)
      else
       if a0.start != (-1) then
        if a1.Start != a0.start then
         some (false, a0)
        else
         F44_j1 n a0 a1
       else
        F44_j1 n a0 a1
theorem F44_ok (n : Nat) (a0 : View) (a1 : Frame) : ∀ r, F44 n a0 a1 = some r → D 44 [.one (.ptr 1000000 0), .agg [li .i64 a1.From, li .i64 a1.Client, li .i64 a1.Session, li .i64 a1.Start, li .i64 a1.Beat, vw Event.cod a1.Events]] [.cells [li .i64 a0.client, li .i64 a0.session, li .i64 a0.n, li .i64 a0.beat, li .i64 a0.start, vw Thing.cod a0.things, .osl 1000001 0 0 (a0.log_).length, .mp 1000002], .arr 58 Event.cod.sz 0 (a0.log_).length (getOf Event.cod a0.log_), .map (mapOf Key.cells Event.cod a0.wait)] = some (F44_e r) := by
 refine fn_to (D := D) (n := n + 8) (nt := 104) (rs := pc44_r) (c := p44c36) (L := [(0, qp 1000000 0), (1, .agg (w0 a1))]) (M := (W2 a0)) (k := 3) rfl rfl rfl rfl rfl rfl rfl ?_
 unfold F44
 refine Sim.sr 2 [(4, qb false), (3, qp 3 0)] [(3, some (.cells (w0 a1)))] (.seq (.block (.st 8 (rp [15, 14] (qb (a1.Client != a0.client)) ++ [(13, qj a0.client)] ++ rp [12, 11, 10] (qp 1000000 0) ++ [(9, qj a1.Client), (8, qp 3 1)]) [] (.sp 15 _ ?_ ?_))))
 ·exact SimI.rd 23 ([(7, qb true), (37, qb true)] ++ rp [36, 35, 34, 33, 32, 31, 30] tz ++ [(29, qb true), (28, qb true), (27, tz), (26, tz), (25, tz), (24, qb true), (23, qb true)] ++ rp [22, 21, 20, 19, 18, 17, 16] tz) [] (.thenN (.ct (.sr 1 [(4, qb false)] [] (.ret (.blockR (.thenR .fn))))))
 ·refine SimI.rn 9 (rp [24, 23, 22] (qb (a1.Session != a0.session)) ++ [(21, qj a0.session), (20, qp 1000000 1), (19, qp 1000000 0), (18, qp 1000000 0), (17, qj a1.Session), (16, qp 3 2)]) [] (.sp 24 _ ?_ ?_)
  ·exact SimI.rd 14 ([(7, qb true), (37, qb true)] ++ rp [36, 35, 34, 33, 32, 31, 30] tz ++ [(29, qb true), (28, qb true), (27, tz), (26, tz), (25, tz)]) [] (.thenN (.ct (.sr 1 [(4, qb false)] [] (.ret (.blockR (.thenR .fn))))))
  ·refine SimI.rn 5 (rp [29, 28, 27] (qb (decide (a1.From < 0))) ++ [(26, qj a1.From), (25, qp 3 0)]) [] (.sp 29 _ ?_ ?_)
   ·exact SimI.rd 9 ([(7, qb true), (37, qb true)] ++ rp [36, 35, 34, 33, 32, 31, 30] tz) [] (.thenN (.ct (.sr 1 [(4, qb false)] [] (.ret (.blockR (.thenR .fn))))))
   ·refine SimI.rd 9 (rp [7, 37, 36] (qb (decide (a0.n ≤ a1.From))) ++ [(35, qj a0.n), (34, qp 1000000 2), (33, qp 1000000 0), (32, qp 1000000 0), (31, qj a1.From), (30, qp 3 0)]) [] (.thenN (.cd _ ?_ ?_))
    ·exact Sim.sr 1 [(4, qb false)] [] (.ret (.blockR (.thenR .fn)))
    ·refine Sim.st 4 (rp [42, 41] (qb (decide (a1.Start < 0))) ++ [(40, qj a1.Start), (39, qp 3 3)]) [] (.sp 42 _ ?_ ?_)
     ·exact SimI.rd 23 ([(38, qb true), (64, qb true)] ++ rp [63, 62, 61, 60, 59, 58, 57, 56, 55, 54, 53, 52, 51, 50] tz ++ [(49, qb true), (48, qb true)] ++ rp [47, 46, 45, 44, 43] tz) [] (.thenN (.ct (.sr 1 [(4, qb false)] [] (.ret (.blockR (.thenR .fn))))))
     ·refine SimI.rn 7 (rp [49, 48, 47] (qb (decide (a1.Beat < a1.Start))) ++ [(46, qj a1.Beat), (45, qp 3 4), (44, qj a1.Start), (43, qp 3 3)]) [] (.sp 49 _ ?_ ?_)
      ·exact SimI.rd 16 ([(38, qb true), (64, qb true)] ++ rp [63, 62, 61, 60, 59, 58, 57, 56, 55, 54, 53, 52, 51, 50] tz) [] (.thenN (.ct (.sr 1 [(4, qb false)] [] (.ret (.blockR (.thenR .fn))))))
      ·refine SimI.rn 6 (rp [55, 54] (qb (a0.start != (-1))) ++ [(53, qj a0.start), (52, qp 1000000 4), (51, qp 1000000 0), (50, qp 1000000 0)]) [] (.sp 55 _ ?_ ?_)
       ·refine SimI.rd 10 (rp [38, 64, 63, 62] (qb (a1.Start != a0.start)) ++ [(61, qj a0.start), (60, qp 1000000 4), (59, qp 1000000 0), (58, qp 1000000 0), (57, qj a1.Start), (56, qp 3 3)]) [] (.thenN (.cd _ ?_ ?_))
        ·exact Sim.sr 1 [(4, qb false)] [] (.ret (.blockR (.thenR .fn)))
        ·refine Sim.pr [0, 3] W32 [] W34 [(3, some (.cells (w0 a1))), (1000000, some (.cells (W5 a0))), (1000001, some (.arr 58 Event.cod.sz 1 (a0.log_).length (getOf Event.cod a0.log_))), (1000002, some (.map (mapOf Key.cells Event.cod a0.wait)))] ?_
         exact F44_j1_ok n a0 a1
       ·refine SimI.rd 10 (rp [38, 64, 63] (qb false) ++ rp [62, 61, 60, 59, 58, 57, 56] tz) [] (.thenN (.cf (.pr [0, 3] W32 [] W34 [(3, some (.cells (w0 a1))), (1000000, some (.cells (W5 a0))), (1000001, some (.arr 58 Event.cod.sz 1 (a0.log_).length (getOf Event.cod a0.log_))), (1000002, some (.map (mapOf Key.cells Event.cod a0.wait)))] ?_)))
        exact F44_j1_ok n a0 a1
def F92_e : Bool → PV × List Ob := fun r => (.one (lb r), [])
def F92 (n : Nat) (a0 : Int) : Option Bool :=
 some (a0 != a0)
theorem F92_ok (n : Nat) (a0 : Int) : ∀ r, F92 n a0 = some r → D 92 [.one (li .i64 a0)] [] = some (F92_e r) := by
 refine fn_to (D := D) (n := n + 8) (nt := 6) (rs := pc92_r) (c := p92c5) (L := [(0, qj a0)]) (M := []) (k := 0) rfl rfl rfl rfl rfl rfl rfl ?_
 unfold F92
 exact Sim.sr 1 [(2, qb false)] [] (.sr 4 [(2, qb (a0 != a0)), (5, qb (a0 != a0)), (4, qj a0), (3, qj a0)] [] (.ret .fn))
def F83_e : Int → PV × List Ob := fun r => (.one (li .i64 r), [])
def F83 (n : Nat) (a0 a1 : Int) : Option Int :=
 (F92 n a0).bind fun (r1 : Bool) =>
 (F92 n a1).bind fun (r2 : Bool) =>
 if r1 then
  if r2 then
   some 0
  else
   some (-1)
 else
  if r2 then
   some 1
  else
   if decide (a0 < a1) then
    some (-1)
   else
    if decide (a1 < a0) then
     some 1
    else
     some 0
theorem F83_ok (n : Nat) (a0 a1 : Int) : ∀ r, F83 n a0 a1 = some r → D 83 [.one (li .i64 a0), .one (li .i64 a1)] [] = some (F83_e r) := by
 refine fn_to (D := D) (n := n + 8) (nt := 20) (rs := pc83_r) (c := p83c49) (L := [(0, qj a0), (1, qj a1)]) (M := []) (k := 0) rfl rfl rfl rfl rfl rfl rfl ?_
 unfold F83
 refine Sim.sr 1 [(4, qj 0)] [] (.st 1 [(7, qj a0)] [] (.cl 8 true [[]] 92 [7] none (fun r1 => qb r1) [qj a0] (F92_ok _ _) (fun r1 => ?_)))
 refine SimI.rd 1 [(5, qb r1)] [] (.thenN (.st 1 [(9, qj a1)] [] (.cl 10 true [[]] 92 [9] none (fun r2 => qb r2) [qj a1] (F92_ok _ _) (fun r2 => ?_))))
 refine SimI.rd 1 [(6, qb r2)] [] (.thenN (.seq (.sr 1 [(11, qb r1)] [] (.cd _ ?_ ?_))))
 ·refine Sim.seq (.sr 1 [(12, qb r2)] [] (.cd _ ?_ ?_))
  ·exact Sim.sr 1 [(4, qj 0)] [] (.ret (.thenR (.thenR .fn)))
  ·exact Sim.skip (.thenN (.sr 1 [(4, qj (-1))] [] (.ret (.thenR .fn))))
 ·refine Sim.skip (.thenN (.seq (.sr 1 [(13, qb r2)] [] (.cd _ ?_ ?_))))
  ·exact Sim.sr 1 [(4, qj 1)] [] (.ret (.thenR .fn))
  ·refine Sim.skip (.thenN (.seq (.sr 3 [(16, qb (decide (a0 < a1))), (15, qj a1), (14, qj a0)] [] (.cd _ ?_ ?_))))
   ·exact Sim.sr 1 [(4, qj (-1))] [] (.ret (.thenR .fn))
   ·refine Sim.skip (.thenN (.seq (.sr 3 [(19, qb (decide (a1 < a0))), (18, qj a1), (17, qj a0)] [] (.cd _ ?_ ?_))))
    ·exact Sim.sr 1 [(4, qj 1)] [] (.ret (.thenR .fn))
    ·exact Sim.skip (.thenN (.sr 1 [(4, qj 0)] [] (.ret .fn)))
def F82_e : Int → PV × List Ob := fun r => (.one (li .i64 r), [])
def F82 (n : Nat) (a0 : Thing) (a1 : Int) : Option Int :=
 (F83 n a0.ID a1).bind fun (r1 : Int) =>
 some r1
theorem F82_ok (n : Nat) (a0 : Thing) (a1 : Int) : ∀ r, F82 n a0 a1 = some r → D 82 [.agg (Thing.cells a0), .one (li .i64 a1)] [] = some (F82_e r) := by
 refine fn_to (D := D) (n := n + 8) (nt := 9) (rs := pc82_r) (c := p82c5) (L := [(0, .agg (Thing.cells a0)), (1, qj a1)]) (M := []) (k := 0) rfl rfl rfl rfl rfl rfl rfl ?_
 unfold F82
 refine Sim.sr 2 [(4, qj 0), (2, qp 2 0)] [(2, some (.cells (Thing.cells a0)))] (.st 3 [(7, qj a1), (6, qj a0.ID), (5, qp 2 0)] [] (.cl 8 true [[], []] 83 [6, 7] none (fun r1 => qj r1) [qj a0.ID, qj a1] (F83_ok _ _ _) (fun r1 => ?_)))
 exact SimI.rd 1 [(4, qj r1)] [] (.thenN (.ret .fn))
def F81s0_e (a0 : (List Thing)) (a1 : Int) : (Int × Bool) → PV × List Ob := fun r => (.tup [.one (li .i64 r.1), .one (lb r.2)], [])
def F81s0_l7 (n : Nat) (a0 : (List Thing)) (a1 : Int) : Nat → Int → Int → Option (Int × Bool)
 | 0, _, _ => none
 | m + 1, i5, i6 =>
  if decide (i5 < i6) then
   (ix a0 (IntKind.wrap .i64 (shrI .u64 (IntKind.wrap .u64 (IntKind.wrap .i64 (i5 + i6))) 1))).bind fun (x8 : Thing) =>
   (F82 n x8 a1).bind fun (r9 : Int) =>
   if decide (r9 < 0) then
    (F81s0_l7 n a0 a1 m) (IntKind.wrap .i64 (IntKind.wrap .i64 (shrI .u64 (IntKind.wrap .u64 (IntKind.wrap .i64 (i5 + i6))) 1) + 1)) i6
   else
    (F81s0_l7 n a0 a1 m) i5 (IntKind.wrap .i64 (shrI .u64 (IntKind.wrap .u64 (IntKind.wrap .i64 (i5 + i6))) 1))
  else
   if decide (i5 < ((a0).length : Int)) then
    (ix a0 i5).bind fun (x10 : Thing) =>
    (F82 n x10 a1).bind fun (r11 : Int) =>
    some (i5, (r11 == 0))
   else
    some (i5, false)
theorem F81s0_l7_ok (n : Nat) (a0 : (List Thing)) (a1 : Int) : ∀ (m : Nat) (i5 i6 : Int), SimL Try.prog D (n + 8) m p81c17 [(0, .one (vw Thing.cod a0)), (1, qj a1), (2, .one (.val (.func (.func 82) #[] #[]))), (8, qj ((a0).length : Int)), (9, qj i5), (10, qj i6)] [] (F81s0_l7 n a0 a1 m i5 i6) (QB 0 (QT Try.prog D (n + 8) p81c22 (QF false pc81_r 0 (F81s0_e a0 a1)))) := by
 intro m_l7
 induction m_l7 with
 | zero => intro i5 i6; exact SimL.zero'  rfl
 | succ m_l7 ih_l7 =>
  intro i5 i6
  refine SimL.succ ?_
  unfold F81s0_l7
  refine Sim.seq (.seq (.rg [(0, .one (vw Thing.cod a0)), (1, qj a1), (2, .one (.val (.func (.func 82) #[] #[]))), (8, qj ((a0).length : Int)), (9, qj i5), (10, qj i6)] [] (.rd 3 [(17, qb (decide (i5 < i6))), (16, qj i6), (15, qj i5)] [] (.thenN (.cd _ ?_ ?_)))))
  ·refine Sim.skip (.thenN (.block (.sr 7 (rp [11, 23] (qj (iw .i64 (shrI .u64 (iw .u64 (iw .i64 (i5 + i6))) 1))) ++ [(22, .one (li .u64 (shrI .u64 (iw .u64 (iw .i64 (i5 + i6))) 1))), (21, .one (li .u64 (iw .u64 (iw .i64 (i5 + i6))))), (20, qj (iw .i64 (i5 + i6))), (19, qj i6), (18, qj i5)]) [] (.st 3 [(26, qj (iw .i64 (shrI .u64 (iw .u64 (iw .i64 (i5 + i6))) 1))), (25, .one (vw Thing.cod a0)), (24, .one (.val (.func (.func 82) #[] #[])))] [] (.bn ⟨some 27, .iaddrS 11 25 26, none, []⟩ (fun x8 => [(27, .one (.eptr (Thing.cod.enc x8) 0))]) (fun x8 => []) (fun x8 hr => pe (ei (c := Thing.cod) (k := .i64) hr)) (fun x8 => ?_))))))
   refine SimI.rn 2 [(29, qj a1), (28, .agg (Thing.cells x8))] [] (.bn ⟨some 30, .callv true [[], []] 24 [28, 29], none, []⟩ (fun r9 => [(30, qj r9)]) (fun r9 => []) (fun r9 hr => pe (eff_callvv (by kernel_rfl) (ARGS := [.agg (Thing.cells x8), qj a1]) (by kernel_rfl) (args_clean (by kernel_rfl) (args_clean (by kernel_rfl) args_nil)) (F82_ok _ _ _ _ hr) (by kernel_rfl))) (fun r9 => ?_))
   refine SimI.rd 1 [(31, qb (decide (r9 < 0)))] [] (.thenN (.cd _ ?_ ?_))
   ·refine Sim.region0 (.rd 3 (rp [9, 33] (qj (iw .i64 (iw .i64 (shrI .u64 (iw .u64 (iw .i64 (i5 + i6))) 1) + 1))) ++ [(32, qj (iw .i64 (shrI .u64 (iw .u64 (iw .i64 (i5 + i6))) 1)))]) [] (.blockN (.loopN (.pr [0, 1, 2, 8, 9, 10] [] [] [(0, .one (vw Thing.cod a0)), (1, qj a1), (2, .one (.val (.func (.func 82) #[] #[]))), (8, qj ((a0).length : Int)), (9, qj (iw .i64 (iw .i64 (shrI .u64 (iw .u64 (iw .i64 (i5 + i6))) 1) + 1))), (10, qj i6)] [] ?_))))
    exact ih_l7 (iw .i64 (iw .i64 (shrI .u64 (iw .u64 (iw .i64 (i5 + i6))) 1) + 1)) i6
   ·refine Sim.region0 (.rd 2 (rp [10, 34] (qj (iw .i64 (shrI .u64 (iw .u64 (iw .i64 (i5 + i6))) 1)))) [] (.blockN (.loopN (.pr [0, 1, 2, 8, 9, 10] [] [] [(0, .one (vw Thing.cod a0)), (1, qj a1), (2, .one (.val (.func (.func 82) #[] #[]))), (8, qj ((a0).length : Int)), (9, qj i5), (10, qj (iw .i64 (shrI .u64 (iw .u64 (iw .i64 (i5 + i6))) 1)))] [] ?_))))
    exact ih_l7 i5 (iw .i64 (shrI .u64 (iw .u64 (iw .i64 (i5 + i6))) 1))
  ·refine Sim.exit (.thenX (.loopX (.blockX (.thenN (.st 5 (rp [39, 38] (qb (decide (i5 < ((a0).length : Int)))) ++ [(37, qj ((a0).length : Int)), (36, qj i5), (35, qj i5)]) [] (.sp 39 _ ?_ ?_))))))
   ·refine SimI.rn 3 [(42, qj i5), (41, .one (vw Thing.cod a0)), (40, .one (.val (.func (.func 82) #[] #[])))] [] (.bn ⟨some 43, .iaddrS 11 41 42, some (39, true), []⟩ (fun x10 => [(43, .one (.eptr (Thing.cod.enc x10) 0))]) (fun x10 => []) (fun x10 hr => pe (ei (c := Thing.cod) (k := .i64) hr)) (fun x10 => ?_))
    refine SimI.rn 2 [(45, qj a1), (44, .agg (Thing.cells x10))] [] (.bn ⟨some 46, .callv true [[], []] 40 [44, 45], some (39, true), []⟩ (fun r11 => [(46, qj r11)]) (fun r11 => []) (fun r11 hr => pe (eff_callvv (by kernel_rfl) (ARGS := [.agg (Thing.cells x10), qj a1]) (by kernel_rfl) (args_clean (by kernel_rfl) (args_clean (by kernel_rfl) args_nil)) (F82_ok _ _ _ _ hr) (by kernel_rfl))) (fun r11 => ?_))
    exact SimI.rd 4 [(7, qb (r11 == 0)), (6, qj i5), (48, qb (r11 == 0)), (47, qb (r11 == 0))] [] (.thenN (.ret .fn))
   ·exact SimI.rd 11 ([(7, qb false), (6, qj i5), (48, qb false)] ++ rp [47, 46, 45, 44, 43, 42, 41, 40] tz) [] (.thenN (.ret .fn))
def F81s0 (n : Nat) (a0 : (List Thing)) (a1 : Int) : Option (Int × Bool) :=
 F81s0_l7 n a0 a1 (n + 8) 0 ((a0).length : Int)
theorem F81s0_ok (n : Nat) (a0 : (List Thing)) (a1 : Int) : ∀ r, F81s0 n a0 a1 = some r → D 81 [.one (vw Thing.cod a0), .one (li .i64 a1), .one (.val (.func (.func 82) #[] #[]))] [] = some ((F81s0_e a0 a1) r) := by
 refine fn_to (D := D) (n := n + 8) (nt := 49) (rs := pc81_r) (c := p81c26) (L := [(0, .one (vw Thing.cod a0)), (1, qj a1), (2, .one (.val (.func (.func 82) #[] #[])))]) (M := []) (k := 0) rfl rfl rfl rfl rfl rfl rfl ?_
 unfold F81s0
 refine Sim.sr 2 [(7, qb false), (6, qj 0)] [] (.sr 3 (rp [8, 13] (qj ((a0).length : Int)) ++ [(12, .one (vw Thing.cod a0))]) [] (.sr 3 [(10, qj ((a0).length : Int)), (9, qj 0), (14, qj ((a0).length : Int))] [] (.seq (.block (.loop (.pr [0, 1, 2, 8, 9, 10] [] [] [(0, .one (vw Thing.cod a0)), (1, qj a1), (2, .one (.val (.func (.func 82) #[] #[]))), (8, qj ((a0).length : Int)), (9, qj 0), (10, qj ((a0).length : Int))] [] ?_))))))
 exact F81s0_l7_ok n a0 a1 (n + 8) 0 ((a0).length : Int)
def F85_e : Thing → PV × List Ob := fun r => (.agg (Thing.cells r), [])
def F85_u14 (n : Nat) (g13 : Thing) : Option Thing :=
  some g13
theorem F85_u14_ok (n : Nat) (a1 : Delta) (g13 : Thing) : SimL Try.prog D (n + 8) (n + 4) p85c23 [(2, qp 2 0), (3, qp 3 0), (4, qp 4 0), (15, .agg (A4_Field.cells a1.F)), (16, qj 4)] (W0 g13 a1) (F85_u14 n g13) (QB 0 (QT Try.prog D (n + 8) p85c29 (QF false pc85_r 0 F85_e))) := by
  unfold F85_u14
  exact SimL.succ (.seq (.rg (w5 a1) (W0 g13 a1) (.rd 1 [(17, qb false)] [] (.thenN (.seq (.cf (.exit (.thenX (.loopX (.blockX (.thenN (.sr 2 [(29, .agg (Thing.cells g13))] [(4, some (.cells (Thing.cells g13)))] (.ret .fn)))))))))))))
def F85_u11 (n : Nat) (a0 : Thing) (a1 : Delta) (g10 : Thing) : Option Thing :=
  (F80 n a1.Mask 3).bind fun (r12 : Bool) =>
  if r12 then
   F85_u14 n (Thing.mk g10.ID g10.At (A4.mk g10.F.a0 g10.F.a1 g10.F.a2 a1.F.a3))
  else
   F85_u14 n g10
theorem F85_u11_ok (n : Nat) (a0 : Thing) (a1 : Delta) (g10 : Thing) : SimL Try.prog D (n + 8) (n + 5) p85c23 [(2, qp 2 0), (3, qp 3 0), (4, qp 4 0), (15, .agg (A4_Field.cells a1.F)), (16, qj 3)] (W0 g10 a1) (F85_u11 n a0 a1 g10) (QB 0 (QT Try.prog D (n + 8) p85c29 (QF false pc85_r 0 F85_e))) := by
  unfold F85_u11
  refine SimL.succ (.seq (.rg (w6 a1) (W0 g10 a1) (.rd 1 [(17, qb true)] [] (.thenN (.seq (.ct (.skip (.thenN (.seq (.block (.sr 5 [(5, qj 3), (6, qp 6 0), (19, .agg (W15 a1)), (18, qj 3)] [(6, some (.cells (W15 a1))), (6, some (.cells [lj 0, ls be]))] (.st 3 [(22, qj 3), (21, .one (li .u8 a1.Mask)), (20, qp 3 1)] [] (.cl 23 true [[], []] 80 [21, 22] none (fun r12 => qb r12) [.one (li .u8 a1.Mask), qj 3] (F80_ok _ _ _) (fun r12 => ?_))))))))))))))
  refine SimI.dn (.thenN (.cd _ ?_ ?_))
  ·refine Sim.region0 (.rd 5 [(27, qp 2 9), (26, qp 2 3), (25, .agg (W15 a1)), (24, qj 3)] [(2, some (.cells (W20 g10 a1)))] (.blockN (.thenN (.region0 (.rd 2 [(16, qj 4), (28, qj 4)] [] (.loopN (.pr [2, 3, 4, 15, 16] [2, 3, 4, 6] [] (w5 a1) [(2, some (.cells (W20 g10 a1))), (3, some (.cells (Delta.cells a1))), (4, some (.cells W35))] ?_)))))))
   exact F85_u14_ok n a1 (Thing.mk g10.ID g10.At (A4.mk g10.F.a0 g10.F.a1 g10.F.a2 a1.F.a3))
  ·refine Sim.skip (.blockN (.thenN (.region0 (.rd 2 [(16, qj 4), (28, qj 4)] [] (.loopN (.pr [2, 3, 4, 15, 16] [2, 3, 4, 6] [] (w5 a1) (W0 g10 a1) ?_))))))
   exact F85_u14_ok n a1 g10
def F85_u8 (n : Nat) (a0 : Thing) (a1 : Delta) (g7 : Thing) : Option Thing :=
  (F80 n a1.Mask 2).bind fun (r9 : Bool) =>
  if r9 then
   F85_u11 n a0 a1 (Thing.mk g7.ID g7.At (A4.mk g7.F.a0 g7.F.a1 a1.F.a2 g7.F.a3))
  else
   F85_u11 n a0 a1 g7
theorem F85_u8_ok (n : Nat) (a0 : Thing) (a1 : Delta) (g7 : Thing) : SimL Try.prog D (n + 8) (n + 6) p85c23 [(2, qp 2 0), (3, qp 3 0), (4, qp 4 0), (15, .agg (A4_Field.cells a1.F)), (16, qj 2)] (W0 g7 a1) (F85_u8 n a0 a1 g7) (QB 0 (QT Try.prog D (n + 8) p85c29 (QF false pc85_r 0 F85_e))) := by
  unfold F85_u8
  refine SimL.succ (.seq (.rg (w7 a1) (W0 g7 a1) (.rd 1 [(17, qb true)] [] (.thenN (.seq (.ct (.skip (.thenN (.seq (.block (.sr 5 [(5, qj 2), (6, qp 6 0), (19, .agg (W16 a1)), (18, qj 2)] [(6, some (.cells (W16 a1))), (6, some (.cells [lj 0, ls be]))] (.st 3 [(22, qj 2), (21, .one (li .u8 a1.Mask)), (20, qp 3 1)] [] (.cl 23 true [[], []] 80 [21, 22] none (fun r9 => qb r9) [.one (li .u8 a1.Mask), qj 2] (F80_ok _ _ _) (fun r9 => ?_))))))))))))))
  refine SimI.dn (.thenN (.cd _ ?_ ?_))
  ·refine Sim.region0 (.rd 5 [(27, qp 2 7), (26, qp 2 3), (25, .agg (W16 a1)), (24, qj 2)] [(2, some (.cells (W21 g7 a1)))] (.blockN (.thenN (.region0 (.rd 2 [(16, qj 3), (28, qj 3)] [] (.loopN (.pr [2, 3, 4, 15, 16] [2, 3, 4, 6] [] (w6 a1) [(2, some (.cells (W21 g7 a1))), (3, some (.cells (Delta.cells a1))), (4, some (.cells W35))] ?_)))))))
   exact F85_u11_ok n a0 a1 (Thing.mk g7.ID g7.At (A4.mk g7.F.a0 g7.F.a1 a1.F.a2 g7.F.a3))
  ·refine Sim.skip (.blockN (.thenN (.region0 (.rd 2 [(16, qj 3), (28, qj 3)] [] (.loopN (.pr [2, 3, 4, 15, 16] [2, 3, 4, 6] [] (w6 a1) (W0 g7 a1) ?_))))))
   exact F85_u11_ok n a0 a1 g7
def F85_u5 (n : Nat) (a0 : Thing) (a1 : Delta) (g4 : Thing) : Option Thing :=
  (F80 n a1.Mask 1).bind fun (r6 : Bool) =>
  if r6 then
   F85_u8 n a0 a1 (Thing.mk g4.ID g4.At (A4.mk g4.F.a0 a1.F.a1 g4.F.a2 g4.F.a3))
  else
   F85_u8 n a0 a1 g4
theorem F85_u5_ok (n : Nat) (a0 : Thing) (a1 : Delta) (g4 : Thing) : SimL Try.prog D (n + 8) (n + 7) p85c23 [(2, qp 2 0), (3, qp 3 0), (4, qp 4 0), (15, .agg (A4_Field.cells a1.F)), (16, qj 1)] (W0 g4 a1) (F85_u5 n a0 a1 g4) (QB 0 (QT Try.prog D (n + 8) p85c29 (QF false pc85_r 0 F85_e))) := by
  unfold F85_u5
  refine SimL.succ (.seq (.rg (w8 a1) (W0 g4 a1) (.rd 1 [(17, qb true)] [] (.thenN (.seq (.ct (.skip (.thenN (.seq (.block (.sr 5 [(5, qj 1), (6, qp 6 0), (19, .agg (W17 a1)), (18, qj 1)] [(6, some (.cells (W17 a1))), (6, some (.cells [lj 0, ls be]))] (.st 3 [(22, qj 1), (21, .one (li .u8 a1.Mask)), (20, qp 3 1)] [] (.cl 23 true [[], []] 80 [21, 22] none (fun r6 => qb r6) [.one (li .u8 a1.Mask), qj 1] (F80_ok _ _ _) (fun r6 => ?_))))))))))))))
  refine SimI.dn (.thenN (.cd _ ?_ ?_))
  ·refine Sim.region0 (.rd 5 [(27, qp 2 5), (26, qp 2 3), (25, .agg (W17 a1)), (24, qj 1)] [(2, some (.cells (W22 g4 a1)))] (.blockN (.thenN (.region0 (.rd 2 [(16, qj 2), (28, qj 2)] [] (.loopN (.pr [2, 3, 4, 15, 16] [2, 3, 4, 6] [] (w7 a1) [(2, some (.cells (W22 g4 a1))), (3, some (.cells (Delta.cells a1))), (4, some (.cells W35))] ?_)))))))
   exact F85_u8_ok n a0 a1 (Thing.mk g4.ID g4.At (A4.mk g4.F.a0 a1.F.a1 g4.F.a2 g4.F.a3))
  ·refine Sim.skip (.blockN (.thenN (.region0 (.rd 2 [(16, qj 2), (28, qj 2)] [] (.loopN (.pr [2, 3, 4, 15, 16] [2, 3, 4, 6] [] (w7 a1) (W0 g4 a1) ?_))))))
   exact F85_u8_ok n a0 a1 g4
def F85_j2 (n : Nat) (a0 : Thing) (a1 : Delta) (g1 : Thing) : Option Thing :=
  (F80 n a1.Mask 0).bind fun (r3 : Bool) =>
  if r3 then
   F85_u5 n a0 a1 (Thing.mk g1.ID g1.At (A4.mk a1.F.a0 g1.F.a1 g1.F.a2 g1.F.a3))
  else
   F85_u5 n a0 a1 g1
theorem F85_j2_ok (n : Nat) (a0 : Thing) (a1 : Delta) (g1 : Thing) : Sim Try.prog D (n + 8) p85c30 [(2, qp 2 0), (3, qp 3 0), (4, qp 4 0)] (W0 g1 a1) (F85_j2 n a0 a1 g1) (QF false pc85_r 0 F85_e) := by
  unfold F85_j2
  refine Sim.seq (.seq (.rs (.rd 3 [(16, qj 0), (15, .agg (A4_Field.cells a1.F)), (14, qp 3 4)] [] (.thenN (.block (.loop (.succ (.seq (.rg [(2, qp 2 0), (3, qp 3 0), (4, qp 4 0), (15, .agg (A4_Field.cells a1.F)), (16, qj 0)] (W0 g1 a1) (.rd 1 [(17, qb true)] [] (.thenN (.seq (.ct (.skip (.thenN (.seq (.block (.sr 5 [(5, qj 0), (6, qp 6 0), (19, .agg (W18 a1)), (18, qj 0)] [(6, some (.cells (W18 a1))), (6, some (.cells [lj 0, ls be]))] (.st 3 [(22, qj 0), (21, .one (li .u8 a1.Mask)), (20, qp 3 1)] [] (.cl 23 true [[], []] 80 [21, 22] none (fun r3 => qb r3) [.one (li .u8 a1.Mask), qj 0] (F80_ok _ _ _) (fun r3 => ?_)))))))))))))))))))))
  refine SimI.dn (.thenN (.cd _ ?_ ?_))
  ·refine Sim.region0 (.rd 5 [(27, qp 2 3), (26, qp 2 3), (25, .agg (W18 a1)), (24, qj 0)] [(2, some (.cells (W23 g1 a1)))] (.blockN (.thenN (.region0 (.rd 2 [(16, qj 1), (28, qj 1)] [] (.loopN (.pr [2, 3, 4, 15, 16] [2, 3, 4, 6] [] (w8 a1) [(2, some (.cells (W23 g1 a1))), (3, some (.cells (Delta.cells a1))), (4, some (.cells W35))] ?_)))))))
   exact F85_u5_ok n a0 a1 (Thing.mk g1.ID g1.At (A4.mk a1.F.a0 g1.F.a1 g1.F.a2 g1.F.a3))
  ·refine Sim.skip (.blockN (.thenN (.region0 (.rd 2 [(16, qj 1), (28, qj 1)] [] (.loopN (.pr [2, 3, 4, 15, 16] [2, 3, 4, 6] [] (w8 a1) (W0 g1 a1) ?_))))))
   exact F85_u5_ok n a0 a1 g1
def F85 (n : Nat) (a0 : Thing) (a1 : Delta) : Option Thing :=
 if (bitsI .and .u8 a1.Mask 1) != 0 then
  F85_j2 n a0 a1 (Thing.mk a0.ID a1.At a0.F)
 else
  F85_j2 n a0 a1 a0
theorem F85_ok (n : Nat) (a0 : Thing) (a1 : Delta) : ∀ r, F85 n a0 a1 = some r → D 85 [.agg (Thing.cells a0), .agg (Delta.cells a1)] [] = some (F85_e r) := by
 refine fn_to (D := D) (n := n + 8) (nt := 30) (rs := pc85_r) (c := p85c32) (L := [(0, .agg (Thing.cells a0)), (1, .agg (Delta.cells a1))]) (M := []) (k := 0) rfl rfl rfl rfl rfl rfl rfl ?_
 unfold F85
 refine Sim.sr 3 [(4, qp 4 0), (3, qp 3 0), (2, qp 2 0)] [(4, some (.cells W35)), (3, some (.cells (Delta.cells a1))), (2, some (.cells (Thing.cells a0)))] (.seq (.sr 4 [(10, qb ((bitsI .and .u8 a1.Mask 1) != 0)), (9, .one (li .u8 (bitsI .and .u8 a1.Mask 1))), (8, .one (li .u8 a1.Mask)), (7, qp 3 1)] [] (.cd _ ?_ ?_)))
 ·refine Sim.region0 (.rd 4 [(13, qp 2 1), (12, .agg [lj a1.At.X, lj a1.At.Y]), (11, qp 3 2)] [(2, some (.cells (W24 a0 a1)))] (.thenN (.pr [2, 3, 4] [2, 3, 4] [] [(2, qp 2 0), (3, qp 3 0), (4, qp 4 0)] [(2, some (.cells (W24 a0 a1))), (3, some (.cells (Delta.cells a1))), (4, some (.cells W35))] ?_)))
  exact F85_j2_ok n a0 a1 (Thing.mk a0.ID a1.At a0.F)
 ·refine Sim.skip (.thenN (.pr [2, 3, 4] [2, 3, 4] [] [(2, qp 2 0), (3, qp 3 0), (4, qp 4 0)] (W0 a0 a1) ?_))
  exact F85_j2_ok n a0 a1 a0
def F74_e : ((List Thing) × Bool) → PV × List Ob := fun r => (.tup [.one (vw Thing.cod r.1), .one (lb r.2)], [])
def F74 (n : Nat) (a0 : (List Thing)) (a1 : Event) : Option ((List Thing) × Bool) :=
 (F81s0 n a0 a1.ID).bind fun (r1 : (Int × Bool)) =>
 (F57 n a1).bind fun (r2 : Bool) =>
 if !(r2) then
  (cloneL a0).bind fun (l3 : (List Thing)) =>
  some (l3, false)
 else
  if r1.2 == (a1.Kind == 1) then
   (cloneL a0).bind fun (l4 : (List Thing)) =>
   some (l4, false)
  else
   (cloneL a0).bind fun (l5 : (List Thing)) =>
   if a1.Kind == 1 then
    (insL l5 r1.1 a1.Thing).bind fun (l6 : (List Thing)) =>
    some (l6, true)
   else
    if a1.Kind == 2 then
     (ix l5 r1.1).bind fun (x7 : Thing) =>
     (F85 n x7 a1.Delta).bind fun (r8 : Thing) =>
     (ix l5 r1.1).bind fun (x9 : Thing) =>
     some (((l5).set ((r1.1).toNat) r8), true)
    else
     (delL l5 r1.1 (IntKind.wrap .i64 (r1.1 + 1))).bind fun (l10 : (List Thing)) =>
     some (l10, true)
theorem F74_ok (n : Nat) (a0 : (List Thing)) (a1 : Event) : ∀ r, F74 n a0 a1 = some r → D 74 [.one (vw Thing.cod a0), .agg (Event.cells a1)] [] = some (F74_e r) := by
 refine fn_to (D := D) (n := n + 8) (nt := 58) (rs := pc74_r) (c := p74c30) (L := [(0, .one (vw Thing.cod a0)), (1, .agg (Event.cells a1))]) (M := []) (k := 0) rfl rfl rfl rfl rfl rfl rfl ?_
 unfold F74
 refine Sim.sr 3 [(5, qb false), (4, .one (lnil)), (3, qp 3 0)] [(3, some (.cells (Event.cells a1)))] (.st 3 [(12, qj a1.ID), (11, qp 3 1), (10, .one (vw Thing.cod a0))] [] (.bn ⟨some 13, .gcall false false W3 [[(0, 11)], [], []] 81 [10, 12, Operand.func 82], none, []⟩ (fun r1 => [(13, .tup [qj r1.1, qb r1.2])]) (fun r1 => []) (fun r1 hr => pe (gq (ks := []) (ARGS := [.one (vw Thing.cod a0), qj a1.ID, .one (.val (.func (.func 82) #[] #[]))]) (F81s0_ok _ _ _ _ hr))) (fun r1 => ?_)))
 refine SimI.rd 5 [(7, qb r1.2), (6, qj r1.1), (15, qb r1.2), (14, qj r1.1), (9, .tup [qj r1.1, qb r1.2])] [] (.thenN (.seq (.st 1 [(16, .agg (Event.cells a1))] [] (.cl 17 true [[]] 57 [16] none (fun r2 => qb r2) [.agg (Event.cells a1)] (F57_ok _ _) (fun r2 => ?_)))))
 refine SimI.rn 2 [(19, qb (!(r2))), (18, qb (!(r2)))] [] (.sp 19 _ ?_ ?_)
 ·refine SimI.rd 6 ([(25, qb true)] ++ rp [24, 23, 22, 21, 20] tz) [] (.thenN (.ct (.st 1 [(26, .one (vw Thing.cod a0))] [] (.bn ⟨some 27, .gcall false false W3 [[(0, 11)]] 50 [26], none, []⟩ (fun l3 => [(27, .one (.osl 300000 0 0 (l3).length))]) (fun l3 => (W8 l3)) (fun l3 hr => pe (eff_gcall (ks := []) (rks := []) (new := [300000]) (ARGS := [.one (vw Thing.cod a0)]) (args1 := [.one (vw Thing.cod a0)]) (args2 := [.one (vw Thing.cod a0)]) (os := []) (os' := [.arr 54 Thing.cod.sz 0 (l3).length (getOf Thing.cod l3)]) (os1 := [.arr 54 Thing.cod.sz 0 (l3).length (getOf Thing.cod l3)]) (res := .one (.osl 1000000 0 0 (l3).length)) (res1 := .one (.osl 1000000 0 0 (l3).length)) (r := .one (.osl 300000 0 0 (l3).length)) (N := (W8 l3)) (by kernel_rfl) (readA_ow (readA_keep (by kernel_rfl) (readA_nil))) (by kernel_rfl) (by kernel_rfl) (by kernel_rfl) (by kernel_rfl) (D_b50 (l := a0) (r := l3) hr) (by kernel_rfl) (by kernel_rfl) (by kernel_rfl) (by kernel_rfl) (by kernel_rfl) (by kernel_rfl) (by kernel_rfl))) (fun l3 => ?_)))))
  exact SimI.rd 2 [(5, qb false), (4, .one (.osl 300000 0 0 (l3).length))] [] (.thenN (.ret (.thenR (.fin (out_of (os := []) (ress_cons (resOf_own (c := Thing.cod) (k := 300000) (g := 0) (el := 54) (l := l3) (by kernel_rfl) (by kernel_rfl) (by kernel_rfl)) (ress_cons (v := qb false) (by kernel_rfl) (ress_nil))) (by kernel_rfl) rfl (by kernel_rfl))))))
 ·refine SimI.rd 6 (rp [25, 24] (qb (r1.2 == (a1.Kind == 1))) ++ [(23, qb (a1.Kind == 1)), (22, qj a1.Kind), (21, qp 3 0), (20, qb r1.2)]) [] (.thenN (.cd _ ?_ ?_))
  ·refine Sim.st 1 [(26, .one (vw Thing.cod a0))] [] (.bn ⟨some 27, .gcall false false W3 [[(0, 11)]] 50 [26], none, []⟩ (fun l4 => [(27, .one (.osl 300000 0 0 (l4).length))]) (fun l4 => (W8 l4)) (fun l4 hr => pe (eff_gcall (ks := []) (rks := []) (new := [300000]) (ARGS := [.one (vw Thing.cod a0)]) (args1 := [.one (vw Thing.cod a0)]) (args2 := [.one (vw Thing.cod a0)]) (os := []) (os' := [.arr 54 Thing.cod.sz 0 (l4).length (getOf Thing.cod l4)]) (os1 := [.arr 54 Thing.cod.sz 0 (l4).length (getOf Thing.cod l4)]) (res := .one (.osl 1000000 0 0 (l4).length)) (res1 := .one (.osl 1000000 0 0 (l4).length)) (r := .one (.osl 300000 0 0 (l4).length)) (N := (W8 l4)) (by kernel_rfl) (readA_ow (readA_keep (by kernel_rfl) (readA_nil))) (by kernel_rfl) (by kernel_rfl) (by kernel_rfl) (by kernel_rfl) (D_b50 (l := a0) (r := l4) hr) (by kernel_rfl) (by kernel_rfl) (by kernel_rfl) (by kernel_rfl) (by kernel_rfl) (by kernel_rfl) (by kernel_rfl))) (fun l4 => ?_))
   exact SimI.rd 2 [(5, qb false), (4, .one (.osl 300000 0 0 (l4).length))] [] (.thenN (.ret (.thenR (.fin (out_of (os := []) (ress_cons (resOf_own (c := Thing.cod) (k := 300000) (g := 0) (el := 54) (l := l4) (by kernel_rfl) (by kernel_rfl) (by kernel_rfl)) (ress_cons (v := qb false) (by kernel_rfl) (ress_nil))) (by kernel_rfl) rfl (by kernel_rfl))))))
  ·refine Sim.skip (.thenN (.st 1 [(28, .one (vw Thing.cod a0))] [] (.bn ⟨some 29, .gcall false false W3 [[(0, 11)]] 50 [28], none, []⟩ (fun l5 => [(29, .one (.osl 300000 0 0 (l5).length))]) (fun l5 => (W8 l5)) (fun l5 hr => pe (eff_gcall (ks := []) (rks := []) (new := [300000]) (ARGS := [.one (vw Thing.cod a0)]) (args1 := [.one (vw Thing.cod a0)]) (args2 := [.one (vw Thing.cod a0)]) (os := []) (os' := [.arr 54 Thing.cod.sz 0 (l5).length (getOf Thing.cod l5)]) (os1 := [.arr 54 Thing.cod.sz 0 (l5).length (getOf Thing.cod l5)]) (res := .one (.osl 1000000 0 0 (l5).length)) (res1 := .one (.osl 1000000 0 0 (l5).length)) (r := .one (.osl 300000 0 0 (l5).length)) (N := (W8 l5)) (by kernel_rfl) (readA_ow (readA_keep (by kernel_rfl) (readA_nil))) (by kernel_rfl) (by kernel_rfl) (by kernel_rfl) (by kernel_rfl) (D_b50 (l := a0) (r := l5) hr) (by kernel_rfl) (by kernel_rfl) (by kernel_rfl) (by kernel_rfl) (by kernel_rfl) (by kernel_rfl) (by kernel_rfl))) (fun l5 => ?_))))
   refine SimI.rd 1 [(8, .one (.osl 300000 0 0 (l5).length))] [] (.thenN (.seq (.sr 2 [(31, qj a1.Kind), (30, qp 3 0)] [] (.block (.sr 2 (rp [37, 38] (qb (a1.Kind == 1))) [] (.cd _ ?_ ?_))))))
   ·refine Sim.region0 (.rn 5 [(43, .one (.csl 43 11 0 1)), (42, .agg (Thing.cells a1.Thing)), (41, qp 3 2), (40, qj r1.1), (39, .one (.osl 300000 0 0 (l5).length))] [(43, some (.cells (Thing.cells a1.Thing)))] (.bn ⟨some 44, .gcall true false [43, 300000, 300001, 300002, 300003, 300004, 300005, 300006, 300007] [[(0, 11)], [], [(0, 11)]] 84 [39, 40, 43], none, []⟩ (fun l6 => [(44, .one (.osl 300000 (0 + 1) 0 (l6).length))]) (fun l6 => [(300000, some (.arr 54 Thing.cod.sz (0 + 1) (l6).length (getOf Thing.cod l6))), (43, some (.cells (Thing.cells a1.Thing)))]) (fun l6 hr => pe (gq (ks := [300000, 43]) (ARGS := [.one (.osl 300000 0 0 (l5).length), qj r1.1, .one (.csl 43 11 0 1)]) (D_b84 (l := l5) (i := r1.1) (a := a1.Thing) (r := l6) hr))) (fun l6 => ?_)))
    exact SimI.rd 1 [(8, .one (.osl 300000 (0 + 1) 0 (l6).length))] [] (.blockN (.thenN (.sr 3 ([(5, qb true)] ++ rp [4, 57] (.one (.osl 300000 (0 + 1) 0 (l6).length))) [] (.ret (.fin (out_of (os := []) (ress_cons (resOf_own (c := Thing.cod) (k := 300000) (g := (0 + 1)) (el := 54) (l := l6) (by kernel_rfl) (by kernel_rfl) (by kernel_rfl)) (ress_cons (v := qb true) (by kernel_rfl) (ress_nil))) (by kernel_rfl) rfl (by kernel_rfl)))))))
   ·refine Sim.sr 2 (rp [45, 46] (qb (a1.Kind == 2))) [] (.cd _ ?_ ?_)
    ·refine Sim.region0 (.rn 4 [(50, qj r1.1), (49, .one (.osl 300000 0 0 (l5).length)), (48, qj r1.1), (47, .one (.osl 300000 0 0 (l5).length))] [] (.bindh (og := ix l5 r1.1) ⟨some 51, .iaddrS 11 49 50, none, [(49, Hint.obj 300000), (50, .imm)]⟩ (fun x7 => [(51, .one (.aptr 300000 0 ((r1.1).toNat) 0))]) (fun x7 => []) (by kernel_rfl) (fun x7 hr => pe (eff_idxO (c := Thing.cod) (l := l5) (g := 0) (el := 54) (k := .i64) (n := r1.1) (by kernel_rfl) (by kernel_rfl) (by kernel_rfl) (by kernel_rfl) hr)) (fun x7 hx7 => ?_)))
     refine SimI.se ⟨some 52, .load true 11 51, none, [(51, Hint.obj 300000)]⟩ [(52, .agg (Thing.cells x7))] [] (pe (eff_loadO (c := Thing.cod) (a := x7) (l := l5) (key := 300000) (g := 0) (el := 54) (off := 0) (i := (r1.1).toNat) (by kernel_rfl) (by kernel_rfl) (ix_some hx7).2.2.2 (by kernel_rfl))) (.rn 2 [(54, .agg (Delta.cells a1.Delta)), (53, qp 3 13)] [] (.cm 55 false [[], []] 85 [52, 54] none [(52, .imm), (54, .imm)] (F85_ok _ _ _) (fun r8 => ?_)))
     refine SimI.bindh (og := ix l5 r1.1) ⟨some 56, .iaddrS 11 47 48, none, [(47, Hint.obj 300000), (48, .imm)]⟩ (fun x9 => [(56, .one (.aptr 300000 0 ((r1.1).toNat) 0))]) (fun x9 => []) (by kernel_rfl) (fun x9 hr => pe (eff_idxO (c := Thing.cod) (l := l5) (g := 0) (el := 54) (k := .i64) (n := r1.1) (by kernel_rfl) (by kernel_rfl) (by kernel_rfl) (by kernel_rfl) hr)) (fun x9 hx9 => ?_)
     exact SimI.se ⟨none, .store 11 56 55, none, [(56, Hint.obj 300000), (55, .imm)]⟩ [] [(300000, some (.arr 54 Thing.cod.sz 0 (((l5).set ((r1.1).toNat) r8)).length (getOf Thing.cod ((l5).set ((r1.1).toNat) r8))))] (pOp_eff_ (by kernel_rfl) (by kernel_rfl) (eff_storeO (c := Thing.cod) (key := 300000) (g := 0) (el := 54) (l := l5) (i := (r1.1).toNat) (b := r8) (by kernel_rfl) (by kernel_rfl) (by kernel_rfl) (ix_some hx9).2.2.1 (fun _ => rfl) rfl (by kernel_rfl))) (.slot 8 (.one (.osl 300000 0 0 (((l5).set ((r1.1).toNat) r8)).length)) (Eq.trans (b := PV.one (.osl 300000 0 0 (l5).length)) (by kernel_rfl) (congrArg (fun z => PV.one (Lf.osl 300000 0 0 z)) List.length_set.symm)) (.dn (.blockN (.thenN (.sr 3 ([(5, qb true)] ++ rp [4, 57] (.one (.osl 300000 0 0 (((l5).set ((r1.1).toNat) r8)).length))) [] (.ret (.fin (out_of (os := []) (ress_cons (resOf_own (c := Thing.cod) (k := 300000) (g := 0) (el := 54) (l := ((l5).set ((r1.1).toNat) r8)) (by kernel_rfl) (by kernel_rfl) (by kernel_rfl)) (ress_cons (v := qb true) (by kernel_rfl) (ress_nil))) (by kernel_rfl) rfl (by kernel_rfl)))))))))
    ·refine Sim.region0 (.rn 4 [(35, qj (iw .i64 (r1.1 + 1))), (34, qj r1.1), (33, qj r1.1), (32, .one (.osl 300000 0 0 (l5).length))] [] (.bn ⟨some 36, .gcall true false W3 [[(0, 11)], [], []] 86 [32, 33, 35], none, []⟩ (fun l10 => [(36, .one (.osl 300000 (0 + 1) 0 (l10).length))]) (fun l10 => [(300000, some (.arr 54 Thing.cod.sz (0 + 1) (l10).length (getOf Thing.cod l10)))]) (fun l10 hr => pe (gq (ks := [300000]) (ARGS := [.one (.osl 300000 0 0 (l5).length), qj r1.1, qj (iw .i64 (r1.1 + 1))]) (D_b86 (l := l5) (i := r1.1) (j := IntKind.wrap .i64 (r1.1 + 1)) (r := l10) hr))) (fun l10 => ?_)))
     exact SimI.rd 1 [(8, .one (.osl 300000 (0 + 1) 0 (l10).length))] [] (.blockN (.thenN (.sr 3 ([(5, qb true)] ++ rp [4, 57] (.one (.osl 300000 (0 + 1) 0 (l10).length))) [] (.ret (.fin (out_of (os := []) (ress_cons (resOf_own (c := Thing.cod) (k := 300000) (g := (0 + 1)) (el := 54) (l := l10) (by kernel_rfl) (by kernel_rfl) (by kernel_rfl)) (ress_cons (v := qb true) (by kernel_rfl) (ress_nil))) (by kernel_rfl) rfl (by kernel_rfl)))))))
def F58_e : ((List Thing) × Bool) → PV × List Ob := fun r => (.tup [.one (vw Thing.cod r.1), .one (lb r.2)], [])
def F58_j16 (n : Nat) (a0 l14 : (List Thing)) (b15 : Bool) : Option ((List Thing) × Bool) :=
  if !(b15) then
   (cloneL a0).bind fun (l17 : (List Thing)) =>
   some (l17, false)
  else
   some (l14, true)
theorem F58_j16_ok (n : Nat) (a0 l14 : (List Thing)) (b15 : Bool) : Sim Try.prog D (n + 8) p58c36 [(0, .one (vw Thing.cod a0)), (6, .one (vw Thing.cod l14)), (7, qb b15)] [] (F58_j16 n a0 l14 b15) (QF false pc58_r 0 F58_e) := by
  unfold F58_j16
  refine Sim.seq (.seq (.rs (.rd 2 [(28, qb (!(b15))), (27, qb b15)] [] (.thenN (.cd _ ?_ ?_)))))
  ·refine Sim.st 1 [(29, .one (vw Thing.cod a0))] [] (.bn ⟨some 30, .gcall false true [399990, 399991] [[(0, 11)]] 50 [29], none, []⟩ (fun l17 => [(30, .one (vw Thing.cod l17))]) (fun l17 => []) (fun l17 hr => pe (eff_gcall (ks := []) (rks := []) (new := [399990]) (ARGS := [.one (vw Thing.cod a0)]) (args1 := [.one (vw Thing.cod a0)]) (args2 := [.one (vw Thing.cod a0)]) (os := []) (os' := [.arr 54 Thing.cod.sz 0 (l17).length (getOf Thing.cod l17)]) (os1 := [.arr 54 Thing.cod.sz 0 (l17).length (getOf Thing.cod l17)]) (res := .one (.osl 1000000 0 0 (l17).length)) (res1 := .one (vw Thing.cod l17)) (r := .one (vw Thing.cod l17)) (N := []) (by kernel_rfl) (readA_ow (readA_keep (by kernel_rfl) (readA_nil))) (by kernel_rfl) (by kernel_rfl) (by kernel_rfl) (by kernel_rfl) (D_b50 (l := a0) (r := l17) hr) (by kernel_rfl) (by kernel_rfl) (by kernel_rfl) (frz_new (c := Thing.cod) 54 l17) (by kernel_rfl) (by kernel_rfl) (by kernel_rfl))) (fun l17 => ?_))
   exact SimI.rd 2 [(5, qb false), (4, .one (vw Thing.cod l17))] [] (.thenN (.ret (.thenR .fn)))
  ·exact Sim.skip (.thenN (.sr 3 ([(5, qb true)] ++ rp [4, 31] (.one (vw Thing.cod l14))) [] (.ret .fn)))
def F58_l11 (n : Nat) (a0 : (List Thing)) (a1 : (List Event)) : Nat → (List Thing) → Bool → Int → Option ((List Thing) × Bool)
 | 0, _, _, _ => none
 | m + 1, l8, b9, i10 =>
  if decide (i10 < ((a1).length : Int)) then
   (ix a1 i10).bind fun (x12 : Event) =>
   (F74 n l8 x12).bind fun (r13 : ((List Thing) × Bool)) =>
   if !(r13.2) then
    F58_j16 n a0 r13.1 r13.2
   else
    (F58_l11 n a0 a1 m) r13.1 r13.2 (IntKind.wrap .i64 (i10 + 1))
  else
   F58_j16 n a0 l8 b9
theorem F58_l11_ok (n : Nat) (a0 : (List Thing)) (a1 : (List Event)) : ∀ (m : Nat) (l8 : (List Thing)) (b9 : Bool) (i10 : Int), SimL Try.prog D (n + 8) m p58c22 [(0, .one (vw Thing.cod a0)), (6, .one (vw Thing.cod l8)), (7, qb b9), (12, .one (vw Event.cod a1)), (13, qj ((a1).length : Int)), (14, qj i10)] [] (F58_l11 n a0 a1 m l8 b9 i10) (QB 0 (QT Try.prog D (n + 8) p58c36 (QF false pc58_r 0 F58_e))) := by
 intro m_l11
 induction m_l11 with
 | zero => intro l8 b9 i10; exact SimL.zero'  rfl
 | succ m_l11 ih_l11 =>
  intro l8 b9 i10
  refine SimL.succ ?_
  unfold F58_l11
  refine Sim.seq (.rg [(0, .one (vw Thing.cod a0)), (6, .one (vw Thing.cod l8)), (7, qb b9), (12, .one (vw Event.cod a1)), (13, qj ((a1).length : Int)), (14, qj i10)] [] (.rd 1 [(15, qb (decide (i10 < ((a1).length : Int))))] [] (.thenN (.seq (.cd _ ?_ ?_)))))
  ·refine Sim.skip (.thenN (.seq (.block (.seq (.region0 (.bn ⟨some 16, .iaddrS 25 12 14, none, []⟩ (fun x12 => [(16, .one (.eptr (Event.cod.enc x12) 0))]) (fun x12 => []) (fun x12 hr => pe (ei (c := Event.cod) (k := .i64) hr)) (fun x12 => ?_)))))))
   refine SimI.rd 3 [(9, qp 9 0), (17, .agg (Event.cells x12))] [(9, some (.cells (Event.cells x12))), (9, some (.cells [lj 0, lj 0, lj 0, lj 0, lj 0, lj 0, ls be, lj 0, ls be, lj 0, ls be, lj 0, ls be, lj 0, li .u8 0, lj 0, lj 0, lj 0, ls be, lj 0, ls be, lj 0, ls be, lj 0, ls be]))] (.thenN (.st 2 [(20, .agg (Event.cells x12)), (19, .one (vw Thing.cod l8))] [] (.cl 21 true [[(0, 11)], []] 74 [19, 20] none (fun r13 => .tup [.one (vw Thing.cod r13.1), qb r13.2]) [.one (vw Thing.cod l8), .agg (Event.cells x12)] (F74_ok _ _ _) (fun r13 => ?_))))
   refine SimI.rd 5 [(7, qb r13.2), (6, .one (vw Thing.cod r13.1)), (23, qb r13.2), (22, .one (vw Thing.cod r13.1)), (18, .tup [.one (vw Thing.cod r13.1), qb r13.2])] [] (.thenN (.sr 2 [(25, qb (!(r13.2))), (24, qb r13.2)] [] (.cd _ ?_ ?_)))
   ·refine Sim.exit (.blockY rfl (.thenX (.loopX (.blockX (.thenN (.pr [0, 6, 7] [9] [] [(0, .one (vw Thing.cod a0)), (6, .one (vw Thing.cod r13.1)), (7, qb r13.2)] [] ?_))))))
    exact F58_j16_ok n a0 r13.1 r13.2
   ·refine Sim.skip (.blockN (.thenN (.region0 (.rd 2 (rp [14, 26] (qj (iw .i64 (i10 + 1)))) [] (.loopN (.pr [0, 6, 7, 12, 13, 14] [9] [] [(0, .one (vw Thing.cod a0)), (6, .one (vw Thing.cod r13.1)), (7, qb r13.2), (12, .one (vw Event.cod a1)), (13, qj ((a1).length : Int)), (14, qj (iw .i64 (i10 + 1)))] [] ?_))))))
    exact ih_l11 r13.1 r13.2 (iw .i64 (i10 + 1))
  ·refine Sim.exit (.thenX (.loopX (.blockX (.thenN (.pr [0, 6, 7] [9] [] [(0, .one (vw Thing.cod a0)), (6, .one (vw Thing.cod l8)), (7, qb b9)] [] ?_)))))
   exact F58_j16_ok n a0 l8 b9
def F58 (n : Nat) (a0 : (List Thing)) (a1 : (List Event)) : Option ((List Thing) × Bool) :=
 (cloneL a0).bind fun (l1 : (List Thing)) =>
 F58_l11 n a0 a1 (n + 8) l1 true 0
theorem F58_ok (n : Nat) (a0 : (List Thing)) (a1 : (List Event)) : ∀ r, F58 n a0 a1 = some r → D 58 [.one (vw Thing.cod a0), .one (vw Event.cod a1)] [] = some (F58_e r) := by
 refine fn_to (D := D) (n := n + 8) (nt := 32) (rs := pc58_r) (c := p58c41) (L := [(0, .one (vw Thing.cod a0)), (1, .one (vw Event.cod a1))]) (M := []) (k := 0) rfl rfl rfl rfl rfl rfl rfl ?_
 unfold F58
 refine Sim.sr 2 [(5, qb false), (4, .one (lnil))] [] (.scope (.st 1 [(10, .one (vw Thing.cod a0))] [] (.bn ⟨some 11, .gcall false true [399990, 399991] [[(0, 11)]] 50 [10], none, []⟩ (fun l1 => [(11, .one (vw Thing.cod l1))]) (fun l1 => []) (fun l1 hr => pe (eff_gcall (ks := []) (rks := []) (new := [399990]) (ARGS := [.one (vw Thing.cod a0)]) (args1 := [.one (vw Thing.cod a0)]) (args2 := [.one (vw Thing.cod a0)]) (os := []) (os' := [.arr 54 Thing.cod.sz 0 (l1).length (getOf Thing.cod l1)]) (os1 := [.arr 54 Thing.cod.sz 0 (l1).length (getOf Thing.cod l1)]) (res := .one (.osl 1000000 0 0 (l1).length)) (res1 := .one (vw Thing.cod l1)) (r := .one (vw Thing.cod l1)) (N := []) (by kernel_rfl) (readA_ow (readA_keep (by kernel_rfl) (readA_nil))) (by kernel_rfl) (by kernel_rfl) (by kernel_rfl) (by kernel_rfl) (D_b50 (l := a0) (r := l1) hr) (by kernel_rfl) (by kernel_rfl) (by kernel_rfl) (frz_new (c := Thing.cod) 54 l1) (by kernel_rfl) (by kernel_rfl) (by kernel_rfl))) (fun l1 => ?_))))
 refine SimI.rd 2 [(7, qb true), (6, .one (vw Thing.cod l1))] [] (.thenN (.seq (.label (.thenN (.seq (.sr 3 [(14, qj 0), (13, qj ((a1).length : Int)), (12, .one (vw Event.cod a1))] [] (.block (.loop (.pr [0, 6, 7, 12, 13, 14] [9] [] [(0, .one (vw Thing.cod a0)), (6, .one (vw Thing.cod l1)), (7, qb true), (12, .one (vw Event.cod a1)), (13, qj ((a1).length : Int)), (14, qj 0)] [] ?_)))))))))
 exact F58_l11_ok n a0 a1 (n + 8) l1 true 0
def F46_e : View → PV × List Ob := fun r => (.tup [], [.cells [li .i64 r.client, li .i64 r.session, li .i64 r.n, li .i64 r.beat, li .i64 r.start, vw Thing.cod r.things, .osl 1000001 1 0 (r.log_).length, .mp 1000002], .arr 58 Event.cod.sz 1 (r.log_).length (getOf Event.cod r.log_), .map (mapOf Key.cells Event.cod r.wait)])
def F46 (n : Nat) (a0 : View) (a1 : (List Event)) : Option View :=
 (F58 n a0.things a1).bind fun (r1 : ((List Thing) × Bool)) =>
 if !(r1.2) then
  some a0
 else
  if ((a0.log_).length + (a1).length) * 264 ≤ maxCells ∧ (a0.log_).length + (a1).length ≤ maxCells then
   some (View.mk a0.client a0.session a0.n a0.beat a0.start r1.1 (a0.log_ ++ a1) a0.wait)
  else none
theorem F46_ok (n : Nat) (a0 : View) (a1 : (List Event)) : ∀ r, F46 n a0 a1 = some r → D 46 [.one (.ptr 1000000 0), .one (vw Event.cod a1)] [.cells [li .i64 a0.client, li .i64 a0.session, li .i64 a0.n, li .i64 a0.beat, li .i64 a0.start, vw Thing.cod a0.things, .osl 1000001 0 0 (a0.log_).length, .mp 1000002], .arr 58 Event.cod.sz 0 (a0.log_).length (getOf Event.cod a0.log_), .map (mapOf Key.cells Event.cod a0.wait)] = some (F46_e r) := by
 refine fn_to (D := D) (n := n + 8) (nt := 30) (rs := pc46_r) (c := p46c11) (L := [(0, qp 1000000 0), (1, .one (vw Event.cod a1))]) (M := (W2 a0)) (k := 3) rfl rfl rfl rfl rfl rfl rfl ?_
 unfold F46
 refine Sim.st 5 [(11, .one (vw Event.cod a1)), (10, .one (vw Thing.cod a0.things)), (9, qp 1000000 5), (8, qp 1000000 0), (7, qp 1000000 0)] [] (.cl 12 true [[(0, 11)], [(0, 25)]] 58 [10, 11] none (fun r1 => .tup [.one (vw Thing.cod r1.1), qb r1.2]) [.one (vw Thing.cod a0.things), .one (vw Event.cod a1)] (F58_ok _ _ _) (fun r1 => ?_))
 refine SimI.rd 5 [(5, qb r1.2), (4, .one (vw Thing.cod r1.1)), (14, qb r1.2), (13, .one (vw Thing.cod r1.1)), (6, .tup [.one (vw Thing.cod r1.1), qb r1.2])] [] (.thenN (.seq (.sr 2 [(16, qb (!(r1.2))), (15, qb r1.2)] [] (.cd _ ?_ ?_))))
 ·exact Sim.ret (.thenR .fn)
 ·exact Sim.skip (.thenN (.sr 5 [(20, qp 1000000 5), (19, qp 1000000 0), (18, .one (vw Thing.cod r1.1)), (17, qp 1000000 0)] [(1000000, some (.cells [lj a0.client, lj a0.session, lj a0.n, lj a0.beat, lj a0.start, vw Thing.cod r1.1, .osl 1000001 0 0 (a0.log_).length, .mp 1000002]))] (.region0 (.rn 6 ([(26, .one (vw Event.cod a1)), (25, .one (.osl 1000001 0 0 (a0.log_).length)), (24, qp 1000000 6)] ++ rp [23, 22, 21] (qp 1000000 0)) [] (.gu ⟨some 27, .app 100025 58 25 264 25 26, none, []⟩ [(27, .one (.osl 1000001 (0 + 1) 0 ((a0.log_ ++ a1)).length))] [(1000001, some (.arr 58 Event.cod.sz (0 + 1) ((a0.log_ ++ a1)).length (getOf Event.cod (a0.log_ ++ a1))))] (fun hc => pe (eff_appOL (c := Event.cod) (g := 0) (l := a0.log_) (m := a1) (by kernel_rfl) (by kernel_rfl) (by kernel_rfl) (by kernel_rfl) hc)) (.rd 3 [(29, qp 1000000 6), (28, qp 1000000 0)] [(1000000, some (.cells [lj a0.client, lj a0.session, lj a0.n, lj a0.beat, lj a0.start, vw Thing.cod r1.1, .osl 1000001 (0 + 1) 0 ((a0.log_ ++ a1)).length, .mp 1000002]))] (.finN (by kernel_rfl))))))))
def F15_e : (Bool × View) → PV × List Ob := fun r => (.one (lb r.1), [.cells [li .i64 r.2.client, li .i64 r.2.session, li .i64 r.2.n, li .i64 r.2.beat, li .i64 r.2.start, vw Thing.cod r.2.things, .osl 1000001 1 0 (r.2.log_).length, .mp 1000002], .arr 58 Event.cod.sz 1 (r.2.log_).length (getOf Event.cod r.2.log_), .map (mapOf Key.cells Event.cod r.2.wait)])
def F15_l59 (n : Nat) (i21 i22 i23 : Int) (rec_l27 : Int → Int → Int → Int → Int → (List Thing) → (List Event) → (List (Key × (List Event))) → Option (Bool × View)) : Nat → Int → Int → Int → Int → Int → Int → (List Thing) → (List Event) → (List (Key × (List Event))) → Option (Bool × View)
 | 0, _, _, _, _, _, _, _, _, _ => none
 | m + 1, i50, i51, i52, i53, i54, i55, l56, l57, l58 =>
  if decide (i50 < i21) then
   (F46 n (View.mk i51 i52 i53 i54 i55 l56 l57 l58) (mget (Key.mk i50 (imax (IntKind.wrap .i64 (i22 + 1)) i23)) l58)).bind fun (r60 : View) =>
   (F15_l59 n i21 i22 i23 rec_l27 m) (IntKind.wrap .i64 (i50 + 1)) r60.client r60.session r60.n r60.beat r60.start r60.things r60.log_ (mcut (Key.mk i50 (imax (IntKind.wrap .i64 (i22 + 1)) i23)) r60.wait)
  else
   rec_l27 i51 i52 i53 (imax (IntKind.wrap .i64 (i22 + 1)) i23) i55 l56 l57 l58
theorem F15_l59_ok (n : Nat) (i21 i22 i23 : Int) (rec_l27 : Int → Int → Int → Int → Int → (List Thing) → (List Event) → (List (Key × (List Event))) → Option (Bool × View)) (m_l27 : Nat) (ih_l27 : ∀ (i19 i20 i21 i22 i23 : Int) (l24 : (List Thing)) (l25 : (List Event)) (l26 : (List (Key × (List Event)))), SimL Try.prog D (n + 8) m_l27 p15c57 [(0, qp 1000000 0)] (W1 i19 i20 i21 i22 i23 l24 l25 l26) (rec_l27 i19 i20 i21 i22 i23 l24 l25 l26) (QB 0 (QT Try.prog D (n + 8) p15c62 (QF false pc15_r 3 F15_e)))) : ∀ (m : Nat) (i50 i51 i52 i53 i54 i55 : Int) (l56 : (List Thing)) (l57 : (List Event)) (l58 : (List (Key × (List Event)))), SimL Try.prog D (n + 8) m p15c49 [(0, qp 1000000 0), (5, qj (imax (IntKind.wrap .i64 (i22 + 1)) i23)), (65, qj i21), (66, qj i50)] (W1 i51 i52 i53 i54 i55 l56 l57 l58) (F15_l59 n i21 i22 i23 rec_l27 m i50 i51 i52 i53 i54 i55 l56 l57 l58) (QB 4 (QT Try.prog D (n + 8) p15c53 (QB 1 (QL Try.prog D (n + 8) m_l27 p15c57 (QB 0 (QT Try.prog D (n + 8) p15c62 (QF false pc15_r 3 F15_e))))))) := by
 intro m_l59
 induction m_l59 with
 | zero => intro i50 i51 i52 i53 i54 i55 l56 l57 l58; exact SimL.zero'  rfl
 | succ m_l59 ih_l59 =>
  intro i50 i51 i52 i53 i54 i55 l56 l57 l58
  refine SimL.succ ?_
  unfold F15_l59
  refine Sim.seq (.rg [(0, qp 1000000 0), (5, qj (imax (iw .i64 (i22 + 1)) i23)), (65, qj i21), (66, qj i50)] (W1 i51 i52 i53 i54 i55 l56 l57 l58) (.rd 1 [(67, qb (decide (i50 < i21)))] [] (.thenN (.seq (.cd _ ?_ ?_)))))
  ·refine Sim.skip (.thenN (.seq (.block (.sr 2 [(9, qj i50), (68, qj i50)] [] (.st 8 ([(76, .agg [lj i50, lj (imax (iw .i64 (i22 + 1)) i23)]), (75, qj (imax (iw .i64 (i22 + 1)) i23)), (74, qj i50), (73, .one (.mp 1000002)), (72, qp 1000000 7)] ++ rp [71, 70, 69] (qp 1000000 0)) [] (.se ⟨some 77, .mlook false 97 [(0, 25)] 73 76, none, []⟩ [(77, .one (vw Event.cod (mget (Key.mk i50 (imax (iw .i64 (i22 + 1)) i23)) l58)))] [] (pe (eff_mlook (sz := 25) (c := Event.cod) Key_map (m := 1000002) (l := l58) (key := (Key.mk i50 (imax (iw .i64 (i22 + 1)) i23))) (by kernel_rfl) (by kernel_rfl) (by kernel_rfl) (by kernel_rfl) false)) (.bn ⟨some 78, .gcall false false W14 [[], [(0, 25)]] 46 [69, 77], none, []⟩ (fun r60 => [(78, tz)]) (fun r60 => [(1000000, some (.cells [lj r60.client, lj r60.session, lj r60.n, lj r60.beat, lj r60.start, vw Thing.cod r60.things, .osl 1000001 (1 + 1) 0 (r60.log_).length, .mp 1000002])), (1000001, some (.arr 58 Event.cod.sz (1 + 1) (r60.log_).length (getOf Event.cod r60.log_))), (1000002, some (.map (mapOf Key.cells Event.cod r60.wait)))]) (fun r60 hr => pe (gq (ks := W14) (ARGS := [qp 1000000 0, .one (vw Event.cod (mget (Key.mk i50 (imax (iw .i64 (i22 + 1)) i23)) l58))]) (F46_ok _ _ _ _ hr))) (fun r60 => ?_))))))))
   refine SimI.dn (.thenN (.region0 (.rn 7 [(85, .agg [lj i50, lj (imax (iw .i64 (i22 + 1)) i23)]), (84, qj (imax (iw .i64 (i22 + 1)) i23)), (83, qj i50), (82, .one (.mp 1000002)), (81, qp 1000000 7), (80, qp 1000000 0), (79, qp 1000000 0)] [] (.se ⟨none, .mdel 97 82 85, none, []⟩ [] [(1000002, some (.map (mapOf Key.cells Event.cod (mcut (Key.mk i50 (imax (iw .i64 (i22 + 1)) i23)) r60.wait))))] (pOp_eff_ (by kernel_rfl) (by kernel_rfl) (eff_mdel (c := Event.cod) Key_map (m := 1000002) (l := r60.wait) (key := (Key.mk i50 (imax (iw .i64 (i22 + 1)) i23))) (by kernel_rfl) (by kernel_rfl) (by kernel_rfl))) (.dn (.blockN (.thenN (.region0 (.rd 2 (rp [66, 86] (qj (iw .i64 (i50 + 1)))) [] (.loopN (.pr [0, 5, 65, 66] W14 [] [(0, qp 1000000 0), (5, qj (imax (iw .i64 (i22 + 1)) i23)), (65, qj i21), (66, qj (iw .i64 (i50 + 1)))] [(1000000, some (.cells (W5 r60))), (1000001, some (.arr 58 Event.cod.sz 1 (r60.log_).length (getOf Event.cod r60.log_))), (1000002, some (.map (mapOf Key.cells Event.cod (mcut (Key.mk i50 (imax (iw .i64 (i22 + 1)) i23)) r60.wait))))] ?_)))))))))))
   exact ih_l59 (iw .i64 (i50 + 1)) r60.client r60.session r60.n r60.beat r60.start r60.things r60.log_ (mcut (Key.mk i50 (imax (iw .i64 (i22 + 1)) i23)) r60.wait)
  ·refine Sim.exit (.thenX (.loopX (.blockX (.thenN (.region0 (.rd 5 [(90, qp 1000000 3), (89, qp 1000000 0), (88, qj (imax (iw .i64 (i22 + 1)) i23)), (87, qp 1000000 0)] [(1000000, some (.cells [lj i51, lj i52, lj i53, lj (imax (iw .i64 (i22 + 1)) i23), lj i55, vw Thing.cod l56, .osl 1000001 1 0 (l57).length, .mp 1000002]))] (.blockN (.loopN (.pr [0] W32 [] [(0, qp 1000000 0)] [(1000000, some (.cells [lj i51, lj i52, lj i53, lj (imax (iw .i64 (i22 + 1)) i23), lj i55, vw Thing.cod l56, .osl 1000001 1 0 (l57).length, .mp 1000002])), (1000001, some (.arr 58 Event.cod.sz 1 (l57).length (getOf Event.cod l57))), (1000002, some (.map (mapOf Key.cells Event.cod l58)))] ?_)))))))))
   exact ih_l27 i51 i52 i53 (imax (iw .i64 (i22 + 1)) i23) i55 l56 l57 l58
def F15_l31 (n : Nat) (i19 i20 i21 i22 i23 : Int) (l24 : (List Thing)) (l25 : (List Event)) (l26 : (List (Key × (List Event)))) (rec_l27 : Int → Int → Int → Int → Int → (List Thing) → (List Event) → (List (Key × (List Event))) → Option (Bool × View)) : Nat → Int → Option (Bool × View)
 | 0, _ => none
 | m + 1, i30 =>
  if decide (i30 < i21) then
   if !(mhas (Key.mk i30 (imax (IntKind.wrap .i64 (i22 + 1)) i23)) l26) then
    some (true, (View.mk i19 i20 i21 i22 i23 l24 l25 l26))
   else
    (F15_l31 n i19 i20 i21 i22 i23 l24 l25 l26 rec_l27 m) (IntKind.wrap .i64 (i30 + 1))
  else
   F15_l59 n i21 i22 i23 rec_l27 (n + 8) 0 i19 i20 i21 i22 i23 l24 l25 l26
theorem F15_l31_ok (n : Nat) (i19 i20 i21 i22 i23 : Int) (l24 : (List Thing)) (l25 : (List Event)) (l26 : (List (Key × (List Event)))) (rec_l27 : Int → Int → Int → Int → Int → (List Thing) → (List Event) → (List (Key × (List Event))) → Option (Bool × View)) (m_l27 : Nat) (ih_l27 : ∀ (i19 i20 i21 i22 i23 : Int) (l24 : (List Thing)) (l25 : (List Event)) (l26 : (List (Key × (List Event)))), SimL Try.prog D (n + 8) m_l27 p15c57 [(0, qp 1000000 0)] (W1 i19 i20 i21 i22 i23 l24 l25 l26) (rec_l27 i19 i20 i21 i22 i23 l24 l25 l26) (QB 0 (QT Try.prog D (n + 8) p15c62 (QF false pc15_r 3 F15_e)))) : ∀ (m : Nat) (i30 : Int), SimL Try.prog D (n + 8) m p15c31 [(0, qp 1000000 0), (5, qj (imax (IntKind.wrap .i64 (i22 + 1)) i23)), (44, qj i21), (45, qj i30)] (W1 i19 i20 i21 i22 i23 l24 l25 l26) (F15_l31 n i19 i20 i21 i22 i23 l24 l25 l26 rec_l27 m i30) (QB 2 (QT Try.prog D (n + 8) p15c54 (QB 1 (QL Try.prog D (n + 8) m_l27 p15c57 (QB 0 (QT Try.prog D (n + 8) p15c62 (QF false pc15_r 3 F15_e))))))) := by
 intro m_l31
 induction m_l31 with
 | zero => intro i30; exact SimL.zero'  rfl
 | succ m_l31 ih_l31 =>
  intro i30
  refine SimL.succ ?_
  unfold F15_l31
  refine Sim.seq (.rg [(0, qp 1000000 0), (5, qj (imax (iw .i64 (i22 + 1)) i23)), (44, qj i21), (45, qj i30)] (W1 i19 i20 i21 i22 i23 l24 l25 l26) (.rd 1 [(46, qb (decide (i30 < i21)))] [] (.thenN (.seq (.cd _ ?_ ?_)))))
  ·refine Sim.skip (.thenN (.seq (.block (.sr 2 [(6, qj i30), (47, qj i30)] [] (.st 7 [(55, .agg [lj i30, lj (imax (iw .i64 (i22 + 1)) i23)]), (54, qj (imax (iw .i64 (i22 + 1)) i23)), (53, qj i30), (52, .one (.mp 1000002)), (51, qp 1000000 7), (50, qp 1000000 0), (49, qp 1000000 0)] [] (.se ⟨some 56, .mlook true 97 [(0, 25)] 52 55, none, []⟩ [(56, .tup [.one (vw Event.cod (mget (Key.mk i30 (imax (iw .i64 (i22 + 1)) i23)) l26)), qb (mhas (Key.mk i30 (imax (iw .i64 (i22 + 1)) i23)) l26)])] [] (pe (eff_mlook (sz := 25) (c := Event.cod) Key_map (m := 1000002) (l := l26) (key := (Key.mk i30 (imax (iw .i64 (i22 + 1)) i23))) (by kernel_rfl) (by kernel_rfl) (by kernel_rfl) (by kernel_rfl) true)) (.rd 5 [(8, qb (mhas (Key.mk i30 (imax (iw .i64 (i22 + 1)) i23)) l26)), (7, .one (vw Event.cod (mget (Key.mk i30 (imax (iw .i64 (i22 + 1)) i23)) l26))), (58, qb (mhas (Key.mk i30 (imax (iw .i64 (i22 + 1)) i23)) l26)), (57, .one (vw Event.cod (mget (Key.mk i30 (imax (iw .i64 (i22 + 1)) i23)) l26))), (48, .tup [.one (vw Event.cod (mget (Key.mk i30 (imax (iw .i64 (i22 + 1)) i23)) l26)), qb (mhas (Key.mk i30 (imax (iw .i64 (i22 + 1)) i23)) l26)])] [] (.thenN (.sr 2 [(60, qb (!(mhas (Key.mk i30 (imax (iw .i64 (i22 + 1)) i23)) l26))), (59, qb (mhas (Key.mk i30 (imax (iw .i64 (i22 + 1)) i23)) l26))] [] (.cd _ ?_ ?_))))))))))
   ·exact Sim.exit (.blockY rfl (.thenX (.loopX (.blockY rfl (.thenX (.blockY rfl (.loopX (.blockX (.thenN (.sr 1 [(4, qb true)] [] (.ret .fn)))))))))))
   ·refine Sim.skip (.blockN (.thenN (.region0 (.rd 2 (rp [45, 61] (qj (iw .i64 (i30 + 1)))) [] (.loopN (.pr [0, 5, 44, 45] W14 [] [(0, qp 1000000 0), (5, qj (imax (iw .i64 (i22 + 1)) i23)), (44, qj i21), (45, qj (iw .i64 (i30 + 1)))] (W1 i19 i20 i21 i22 i23 l24 l25 l26) ?_))))))
    exact ih_l31 (iw .i64 (i30 + 1))
  ·refine Sim.exit (.thenX (.loopX (.blockX (.thenN (.seq (.sr 5 [(66, qj 0), (65, qj i21), (64, qp 1000000 2), (63, qp 1000000 0), (62, qp 1000000 0)] [] (.block (.loop (.pr [0, 5, 65, 66] W14 [] [(0, qp 1000000 0), (5, qj (imax (iw .i64 (i22 + 1)) i23)), (65, qj i21), (66, qj 0)] (W1 i19 i20 i21 i22 i23 l24 l25 l26) ?_)))))))))
   exact F15_l59_ok n i21 i22 i23 rec_l27 m_l27 ih_l27 (n + 8) 0 i19 i20 i21 i22 i23 l24 l25 l26
def F15_l27 (n : Nat) : Nat → Int → Int → Int → Int → Int → (List Thing) → (List Event) → (List (Key × (List Event))) → Option (Bool × View)
 | 0, _, _, _, _, _, _, _, _ => none
 | m + 1, i19, i20, i21, i22, i23, l24, l25, l26 =>
  F15_l31 n i19 i20 i21 i22 i23 l24 l25 l26 (F15_l27 n m) (n + 8) 0
theorem F15_l27_ok (n : Nat) : ∀ (m : Nat) (i19 i20 i21 i22 i23 : Int) (l24 : (List Thing)) (l25 : (List Event)) (l26 : (List (Key × (List Event)))), SimL Try.prog D (n + 8) m p15c57 [(0, qp 1000000 0)] (W1 i19 i20 i21 i22 i23 l24 l25 l26) (F15_l27 n m i19 i20 i21 i22 i23 l24 l25 l26) (QB 0 (QT Try.prog D (n + 8) p15c62 (QF false pc15_r 3 F15_e))) := by
 intro m_l27
 induction m_l27 with
 | zero => intro i19 i20 i21 i22 i23 l24 l25 l26; exact SimL.zero'  rfl
 | succ m_l27 ih_l27 =>
  intro i19 i20 i21 i22 i23 l24 l25 l26
  refine SimL.succ ?_
  unfold F15_l27
  refine Sim.block (.seq (.rg [(0, qp 1000000 0)] (W1 i19 i20 i21 i22 i23 l24 l25 l26) (.rd 11 (rp [5, 40] (qj (imax (iw .i64 (i22 + 1)) i23)) ++ [(39, qj i23), (38, qp 1000000 4), (37, qp 1000000 0), (36, qp 1000000 0), (35, qj (iw .i64 (i22 + 1))), (34, qj i22), (33, qp 1000000 3), (32, qp 1000000 0), (31, qp 1000000 0)]) [] (.thenN (.seq (.sr 5 [(45, qj 0), (44, qj i21), (43, qp 1000000 2), (42, qp 1000000 0), (41, qp 1000000 0)] [] (.block (.loop (.pr [0, 5, 44, 45] W14 [] [(0, qp 1000000 0), (5, qj (imax (iw .i64 (i22 + 1)) i23)), (44, qj i21), (45, qj 0)] (W1 i19 i20 i21 i22 i23 l24 l25 l26) ?_)))))))))
  exact F15_l31_ok n i19 i20 i21 i22 i23 l24 l25 l26 (F15_l27 n m_l27) m_l27 ih_l27 (n + 8) 0
def F15 (n : Nat) (a0 : View) (a1 : Frame) : Option (Bool × View) :=
 (F44 n a0 a1).bind fun (r1 : (Bool × View)) =>
 if !(r1.1) then
  some (false, r1.2)
 else
  (cloneL a1.Events).bind fun (l2 : (List Event)) =>
  F15_l27 n (n + 8) r1.2.client r1.2.session r1.2.n r1.2.beat a1.Start r1.2.things r1.2.log_ (mput (Key.mk a1.From a1.Beat) l2 r1.2.wait)
theorem F15_ok (n : Nat) (a0 : View) (a1 : Frame) : ∀ r, F15 n a0 a1 = some r → D 15 [.one (.ptr 1000000 0), .agg [li .i64 a1.From, li .i64 a1.Client, li .i64 a1.Session, li .i64 a1.Start, li .i64 a1.Beat, vw Event.cod a1.Events]] [.cells [li .i64 a0.client, li .i64 a0.session, li .i64 a0.n, li .i64 a0.beat, li .i64 a0.start, vw Thing.cod a0.things, .osl 1000001 0 0 (a0.log_).length, .mp 1000002], .arr 58 Event.cod.sz 0 (a0.log_).length (getOf Event.cod a0.log_), .map (mapOf Key.cells Event.cod a0.wait)] = some (F15_e r) := by
 refine fn_to (D := D) (n := n + 8) (nt := 91) (rs := pc15_r) (c := p15c69) (L := [(0, qp 1000000 0), (1, .agg (w0 a1))]) (M := (W2 a0)) (k := 3) rfl rfl rfl rfl rfl rfl rfl ?_
 unfold F15
 refine Sim.sr 2 [(4, qb false), (3, qp 3 0)] [(3, some (.cells (w0 a1)))] (.scope (.seq (.st 2 [(11, .agg (w0 a1)), (10, qp 1000000 0)] [] (.bn ⟨some 12, .gcall false false W14 [[], [(5, 25)]] 44 [10, 11], none, []⟩ (fun r1 => [(12, qb r1.1)]) (fun r1 => [(1000000, some (.cells [lj r1.2.client, lj r1.2.session, lj r1.2.n, lj r1.2.beat, lj r1.2.start, vw Thing.cod r1.2.things, .osl 1000001 (0 + 1) 0 (r1.2.log_).length, .mp 1000002])), (1000001, some (.arr 58 Event.cod.sz (0 + 1) (r1.2.log_).length (getOf Event.cod r1.2.log_))), (1000002, some (.map (mapOf Key.cells Event.cod r1.2.wait)))]) (fun r1 hr => pe (gq (ks := W14) (ARGS := [qp 1000000 0, .agg (w0 a1)]) (F44_ok _ _ _ _ hr))) (fun r1 => ?_)))))
 refine SimI.rd 1 [(13, qb (!(r1.1)))] [] (.thenN (.cd _ ?_ ?_))
 ·exact Sim.sr 1 [(4, qb false)] [] (.ret (.thenR .fn))
 ·refine Sim.skip (.thenN (.sr 6 [(18, qp 1000000 4), (17, qp 1000000 0), (16, qj a1.Start), (15, qp 3 3), (14, qp 1000000 0)] [(1000000, some (.cells [lj r1.2.client, lj r1.2.session, lj r1.2.n, lj r1.2.beat, lj a1.Start, vw Thing.cod r1.2.things, .osl 1000001 (0 + 1) 0 (r1.2.log_).length, .mp 1000002]))] (.st 11 [(29, .one (vw Event.cod a1.Events)), (28, qp 3 5), (27, .agg [lj a1.From, lj a1.Beat]), (26, qj a1.Beat), (25, qp 3 4), (24, qj a1.From), (23, qp 3 0), (22, .one (.mp 1000002)), (21, qp 1000000 7), (20, qp 1000000 0), (19, qp 1000000 0)] [] (.bn ⟨some 30, .gcall false true [399990, 399991] [[(0, 25)]] 45 [29], none, [(29, .imm)]⟩ (fun l2 => [(30, .one (vw Event.cod l2))]) (fun l2 => []) (fun l2 hr => pe (eff_gcall (ks := []) (rks := []) (new := [399990]) (ARGS := [.one (vw Event.cod a1.Events)]) (args1 := [.one (vw Event.cod a1.Events)]) (args2 := [.one (vw Event.cod a1.Events)]) (os := []) (os' := [.arr 58 Event.cod.sz 0 (l2).length (getOf Event.cod l2)]) (os1 := [.arr 58 Event.cod.sz 0 (l2).length (getOf Event.cod l2)]) (res := .one (.osl 1000000 0 0 (l2).length)) (res1 := .one (vw Event.cod l2)) (r := .one (vw Event.cod l2)) (N := []) (by kernel_rfl) (readA_ow (readA_keep (by kernel_rfl) (readA_nil))) (by kernel_rfl) (by kernel_rfl) (by kernel_rfl) (by kernel_rfl) (D_b45 (l := a1.Events) (r := l2) hr) (by kernel_rfl) (by kernel_rfl) (by kernel_rfl) (frz_new (c := Event.cod) 58 l2) (by kernel_rfl) (by kernel_rfl) (by kernel_rfl))) (fun l2 => ?_)))))
  refine SimI.se ⟨none, .mset 97 22 27 30, none, [(22, Hint.obj 1000002), (27, .imm), (30, .imm)]⟩ [] [(1000002, some (.map (mapOf Key.cells Event.cod (mput (Key.mk a1.From a1.Beat) l2 r1.2.wait))))] (pOp_eff_ (by kernel_rfl) (by kernel_rfl) (eff_mset (c := Event.cod) Key_map (m := 1000002) (l := r1.2.wait) (key := (Key.mk a1.From a1.Beat)) (y := l2) (by kernel_rfl) (by kernel_rfl) (by kernel_rfl) (by kernel_rfl))) (.dn (.thenN (.seq (.label (.thenN (.seq (.block (.loop (.pr [0] W32 [] [(0, qp 1000000 0)] [(1000000, some (.cells [lj r1.2.client, lj r1.2.session, lj r1.2.n, lj r1.2.beat, lj a1.Start, vw Thing.cod r1.2.things, .osl 1000001 1 0 (r1.2.log_).length, .mp 1000002])), (1000001, some (.arr 58 Event.cod.sz 1 (r1.2.log_).length (getOf Event.cod r1.2.log_))), (1000002, some (.map (mapOf Key.cells Event.cod (mput (Key.mk a1.From a1.Beat) l2 r1.2.wait))))] ?_)))))))))
  exact F15_l27_ok n (n + 8) r1.2.client r1.2.session r1.2.n r1.2.beat a1.Start r1.2.things r1.2.log_ (mput (Key.mk a1.From a1.Beat) l2 r1.2.wait)
def F17_e : (Int × View) → PV × List Ob := fun r => (.one (li .i64 r.1), [.cells [li .i64 r.2.client, li .i64 r.2.session, li .i64 r.2.n, li .i64 r.2.beat, li .i64 r.2.start, vw Thing.cod r.2.things, .osl 1000001 1 0 (r.2.log_).length, .mp 1000002], .arr 58 Event.cod.sz 1 (r.2.log_).length (getOf Event.cod r.2.log_), .map (mapOf Key.cells Event.cod r.2.wait)])
def F17 (n : Nat) (a0 : View) : Option (Int × View) :=
 some (a0.beat, a0)
theorem F17_ok (n : Nat) (a0 : View) : ∀ r, F17 n a0 = some r → D 17 [.one (.ptr 1000000 0)] [.cells [li .i64 a0.client, li .i64 a0.session, li .i64 a0.n, li .i64 a0.beat, li .i64 a0.start, vw Thing.cod a0.things, .osl 1000001 0 0 (a0.log_).length, .mp 1000002], .arr 58 Event.cod.sz 0 (a0.log_).length (getOf Event.cod a0.log_), .map (mapOf Key.cells Event.cod a0.wait)] = some (F17_e r) := by
 refine fn_to (D := D) (n := n + 8) (nt := 7) (rs := pc17_r) (c := p17c5) (L := [(0, qp 1000000 0)]) (M := (W2 a0)) (k := 3) rfl rfl rfl rfl rfl rfl rfl ?_
 unfold F17
 exact Sim.sr 1 [(2, qj 0)] [] (.sr 5 [(2, qj a0.beat), (6, qj a0.beat), (5, qp 1000000 3), (4, qp 1000000 0), (3, qp 1000000 0)] [] (.ret .fn))
def F18_e : (Int × View) → PV × List Ob := fun r => (.one (li .i64 r.1), [.cells [li .i64 r.2.client, li .i64 r.2.session, li .i64 r.2.n, li .i64 r.2.beat, li .i64 r.2.start, vw Thing.cod r.2.things, .osl 1000001 1 0 (r.2.log_).length, .mp 1000002], .arr 58 Event.cod.sz 1 (r.2.log_).length (getOf Event.cod r.2.log_), .map (mapOf Key.cells Event.cod r.2.wait)])
def F18 (n : Nat) (a0 : View) : Option (Int × View) :=
 some (((a0.wait).length : Int), a0)
theorem F18_ok (n : Nat) (a0 : View) : ∀ r, F18 n a0 = some r → D 18 [.one (.ptr 1000000 0)] [.cells [li .i64 a0.client, li .i64 a0.session, li .i64 a0.n, li .i64 a0.beat, li .i64 a0.start, vw Thing.cod a0.things, .osl 1000001 0 0 (a0.log_).length, .mp 1000002], .arr 58 Event.cod.sz 0 (a0.log_).length (getOf Event.cod a0.log_), .map (mapOf Key.cells Event.cod a0.wait)] = some (F18_e r) := by
 refine fn_to (D := D) (n := n + 8) (nt := 8) (rs := pc18_r) (c := p18c5) (L := [(0, qp 1000000 0)]) (M := (W2 a0)) (k := 3) rfl rfl rfl rfl rfl rfl rfl ?_
 unfold F18
 exact Sim.sr 1 [(2, qj 0)] [] (.st 4 [(6, .one (.mp 1000002)), (5, qp 1000000 7), (4, qp 1000000 0), (3, qp 1000000 0)] [] (.se ⟨some 7, .mlen 6, none, []⟩ [(7, qj ((a0.wait).length : Int))] [] (pe (eff_mlen (c := Event.cod) (ck := Key.cells) (m := 1000002) (l := a0.wait) (by kernel_rfl) (by kernel_rfl))) (.rd 1 [(2, qj ((a0.wait).length : Int))] [] (.thenN (.ret .fn)))))
def F20_e : ((List Thing) × View) → PV × List Ob := fun r => (.one (vw Thing.cod r.1), [.cells [li .i64 r.2.client, li .i64 r.2.session, li .i64 r.2.n, li .i64 r.2.beat, li .i64 r.2.start, vw Thing.cod r.2.things, .osl 1000001 1 0 (r.2.log_).length, .mp 1000002], .arr 58 Event.cod.sz 1 (r.2.log_).length (getOf Event.cod r.2.log_), .map (mapOf Key.cells Event.cod r.2.wait)])
def F20 (n : Nat) (a0 : View) : Option ((List Thing) × View) :=
 (cloneL a0.things).bind fun (l1 : (List Thing)) =>
 some (l1, a0)
theorem F20_ok (n : Nat) (a0 : View) : ∀ r, F20 n a0 = some r → D 20 [.one (.ptr 1000000 0)] [.cells [li .i64 a0.client, li .i64 a0.session, li .i64 a0.n, li .i64 a0.beat, li .i64 a0.start, vw Thing.cod a0.things, .osl 1000001 0 0 (a0.log_).length, .mp 1000002], .arr 58 Event.cod.sz 0 (a0.log_).length (getOf Event.cod a0.log_), .map (mapOf Key.cells Event.cod a0.wait)] = some (F20_e r) := by
 refine fn_to (D := D) (n := n + 8) (nt := 8) (rs := pc20_r) (c := p20c5) (L := [(0, qp 1000000 0)]) (M := (W2 a0)) (k := 3) rfl rfl rfl rfl rfl rfl rfl ?_
 unfold F20
 refine Sim.sr 1 [(2, .one (lnil))] [] (.st 4 [(6, .one (vw Thing.cod a0.things)), (5, qp 1000000 5), (4, qp 1000000 0), (3, qp 1000000 0)] [] (.bn ⟨some 7, .gcall false true [399990, 399991] [[(0, 11)]] 50 [6], none, []⟩ (fun l1 => [(7, .one (vw Thing.cod l1))]) (fun l1 => []) (fun l1 hr => pe (eff_gcall (ks := []) (rks := []) (new := [399990]) (ARGS := [.one (vw Thing.cod a0.things)]) (args1 := [.one (vw Thing.cod a0.things)]) (args2 := [.one (vw Thing.cod a0.things)]) (os := []) (os' := [.arr 54 Thing.cod.sz 0 (l1).length (getOf Thing.cod l1)]) (os1 := [.arr 54 Thing.cod.sz 0 (l1).length (getOf Thing.cod l1)]) (res := .one (.osl 1000000 0 0 (l1).length)) (res1 := .one (vw Thing.cod l1)) (r := .one (vw Thing.cod l1)) (N := []) (by kernel_rfl) (readA_ow (readA_keep (by kernel_rfl) (readA_nil))) (by kernel_rfl) (by kernel_rfl) (by kernel_rfl) (by kernel_rfl) (D_b50 (l := a0.things) (r := l1) hr) (by kernel_rfl) (by kernel_rfl) (by kernel_rfl) (frz_new (c := Thing.cod) 54 l1) (by kernel_rfl) (by kernel_rfl) (by kernel_rfl))) (fun l1 => ?_)))
 exact SimI.rd 1 [(2, .one (vw Thing.cod l1))] [] (.thenN (.ret .fn))
def F22_e : ((List Event) × View) → PV × List Ob := fun r => (.one (vw Event.cod r.1), [.cells [li .i64 r.2.client, li .i64 r.2.session, li .i64 r.2.n, li .i64 r.2.beat, li .i64 r.2.start, vw Thing.cod r.2.things, .osl 1000001 1 0 (r.2.log_).length, .mp 1000002], .arr 58 Event.cod.sz 1 (r.2.log_).length (getOf Event.cod r.2.log_), .map (mapOf Key.cells Event.cod r.2.wait)])
def F22 (n : Nat) (a0 : View) : Option ((List Event) × View) :=
 (cloneL a0.log_).bind fun (l1 : (List Event)) =>
 some (l1, a0)
theorem F22_ok (n : Nat) (a0 : View) : ∀ r, F22 n a0 = some r → D 22 [.one (.ptr 1000000 0)] [.cells [li .i64 a0.client, li .i64 a0.session, li .i64 a0.n, li .i64 a0.beat, li .i64 a0.start, vw Thing.cod a0.things, .osl 1000001 0 0 (a0.log_).length, .mp 1000002], .arr 58 Event.cod.sz 0 (a0.log_).length (getOf Event.cod a0.log_), .map (mapOf Key.cells Event.cod a0.wait)] = some (F22_e r) := by
 refine fn_to (D := D) (n := n + 8) (nt := 8) (rs := pc22_r) (c := p22c5) (L := [(0, qp 1000000 0)]) (M := (W2 a0)) (k := 3) rfl rfl rfl rfl rfl rfl rfl ?_
 unfold F22
 refine Sim.sr 1 [(2, .one (lnil))] [] (.st 4 [(6, .one (.osl 1000001 0 0 (a0.log_).length)), (5, qp 1000000 6), (4, qp 1000000 0), (3, qp 1000000 0)] [] (.bn ⟨some 7, .gcall false true [399990, 399991, 1000001] [[(0, 25)]] 45 [6], none, []⟩ (fun l1 => [(7, .one (vw Event.cod l1))]) (fun l1 => []) (fun l1 hr => pe (eff_gcall (ks := []) (rks := [1000001]) (new := [399990]) (ARGS := [.one (.osl 1000001 0 0 (a0.log_).length)]) (args1 := [.one (vw Event.cod a0.log_)]) (args2 := [.one (vw Event.cod a0.log_)]) (os := []) (os' := [.arr 58 Event.cod.sz 0 (l1).length (getOf Event.cod l1)]) (os1 := [.arr 58 Event.cod.sz 0 (l1).length (getOf Event.cod l1)]) (res := .one (.osl 1000000 0 0 (l1).length)) (res1 := .one (vw Event.cod l1)) (r := .one (vw Event.cod l1)) (N := []) (by kernel_rfl) (readA_ow (readA_own (c := Event.cod) (k := 1000001) (g := 0) (el := 58) (l := a0.log_) (by kernel_rfl) (readA_nil))) (by kernel_rfl) (by kernel_rfl) (by kernel_rfl) (by kernel_rfl) (D_b45 (l := a0.log_) (r := l1) hr) (flat_row (c := Event.cod) (fun _ => by kernel_rfl) l1) (by kernel_rfl) (by kernel_rfl) (frz_new (c := Event.cod) 58 l1) (by kernel_rfl) (by kernel_rfl) (by kernel_rfl))) (fun l1 => ?_)))
 exact SimI.rd 1 [(2, .one (vw Event.cod l1))] [] (.thenN (.ret .fn))
def F24_e : (List Event) → PV × List Ob := fun r => (.one (.osl 1000000 0 0 (r).length), [.arr 58 Event.cod.sz 0 (r).length (getOf Event.cod r)])
def F24 (n : Nat) (a0 : Int) : Option (List Event) :=
 some [(Event.mk 1 a0 (Thing.mk a0 (Point.mk 0 0) (A4.mk (Field.mk 0 ByteArray.empty) (Field.mk 0 ByteArray.empty) (Field.mk 0 ByteArray.empty) (Field.mk 0 ByteArray.empty))) (Delta.mk 0 0 (Point.mk 0 0) (A4.mk (Field.mk 0 ByteArray.empty) (Field.mk 0 ByteArray.empty) (Field.mk 0 ByteArray.empty) (Field.mk 0 ByteArray.empty))))]
theorem F24_ok (n : Nat) (a0 : Int) : ∀ r, F24 n a0 = some r → D 24 [.one (li .i64 a0)] [] = some (F24_e r) := by
 refine fn_to (D := D) (n := n + 8) (nt := 8) (rs := pc24_r) (c := p24c5) (L := [(0, qj a0)]) (M := []) (k := 0) rfl rfl rfl rfl rfl rfl rfl ?_
 unfold F24
 exact Sim.sr 1 [(2, .one (lnil))] [] (.sr 6 (rp [2, 7] (.one (.osl 7 0 0 ([(Event.mk 1 a0 (Thing.mk a0 (Point.mk 0 0) (A4.mk (Field.mk 0 be) (Field.mk 0 be) (Field.mk 0 be) (Field.mk 0 be))) (Delta.mk 0 0 (Point.mk 0 0) (A4.mk (Field.mk 0 be) (Field.mk 0 be) (Field.mk 0 be) (Field.mk 0 be))))]).length)) ++ [(6, .agg [lj 1, lj a0, lj a0, lj 0, lj 0, lj 0, ls be, lj 0, ls be, lj 0, ls be, lj 0, ls be, lj 0, li .u8 0, lj 0, lj 0, lj 0, ls be, lj 0, ls be, lj 0, ls be, lj 0, ls be]), (5, .agg [lj a0, lj 0, lj 0, lj 0, ls be, lj 0, ls be, lj 0, ls be, lj 0, ls be]), (4, qj a0), (3, qj a0)]) [(7, some (.arr 58 Event.cod.sz 0 ([(Event.mk 1 a0 (Thing.mk a0 (Point.mk 0 0) (A4.mk (Field.mk 0 be) (Field.mk 0 be) (Field.mk 0 be) (Field.mk 0 be))) (Delta.mk 0 0 (Point.mk 0 0) (A4.mk (Field.mk 0 be) (Field.mk 0 be) (Field.mk 0 be) (Field.mk 0 be))))]).length (getOf Event.cod [(Event.mk 1 a0 (Thing.mk a0 (Point.mk 0 0) (A4.mk (Field.mk 0 be) (Field.mk 0 be) (Field.mk 0 be) (Field.mk 0 be))) (Delta.mk 0 0 (Point.mk 0 0) (A4.mk (Field.mk 0 be) (Field.mk 0 be) (Field.mk 0 be) (Field.mk 0 be))))])))] (.ret .fn))
theorem F11_ok (n : Nat) : ∀ r, (some true : Option Bool) = some r → D 11 [] [] = some (.one (lb r), []) := by
 rintro _ ⟨⟩
 exact all_of (N := 60) (by kernel_rfl)
def F19_e : Bool → PV × List Ob := fun r => (.one (lb r), [])
def F19_l4 (n : Nat) (a0 a1 : (List Thing)) : Nat → Int → Option Bool
 | 0, _ => none
 | m + 1, i3 =>
  if decide (i3 < ((a0).length : Int)) then
   (ix a0 i3).bind fun (x5 : Thing) =>
   (ix a1 i3).bind fun (x6 : Thing) =>
   if !(Thing.eqb x5 x6) then
    some false
   else
    (F19_l4 n a0 a1 m) (IntKind.wrap .i64 (i3 + 1))
  else
   some true
theorem F19_l4_ok (n : Nat) (a0 a1 : (List Thing)) : ∀ (m : Nat) (i3 : Int), SimL Try.prog D (n + 8) m p19c25 [(0, .one (vw Thing.cod a0)), (1, .one (vw Thing.cod a1)), (5, qj i3)] [] (F19_l4 n a0 a1 m i3) (QB 0 (QT Try.prog D (n + 8) p19c31 (QF false pc19_r 0 F19_e))) := by
 intro m_l4
 induction m_l4 with
 | zero => intro i3; exact SimL.zero'  rfl
 | succ m_l4 ih_l4 =>
  intro i3
  refine SimL.succ ?_
  unfold F19_l4
  refine Sim.seq (.seq (.rg [(0, .one (vw Thing.cod a0)), (1, .one (vw Thing.cod a1)), (5, qj i3)] [] (.rd 4 [(14, qb (decide (i3 < ((a0).length : Int)))), (13, qj ((a0).length : Int)), (12, .one (vw Thing.cod a0)), (11, qj i3)] [] (.thenN (.cd _ ?_ ?_)))))
  ·refine Sim.skip (.thenN (.seq (.block (.st 2 [(18, qj i3), (17, .one (vw Thing.cod a0))] [] (.bn ⟨some 19, .iaddrS 11 17 18, none, [(17, .imm), (18, .imm)]⟩ (fun x5 => [(19, .one (.eptr (Thing.cod.enc x5) 0))]) (fun x5 => []) (fun x5 hr => pe (ei (c := Thing.cod) (k := .i64) hr)) (fun x5 => ?_))))))
   refine SimI.rn 3 [(22, qj i3), (21, .one (vw Thing.cod a1)), (20, .agg (Thing.cells x5))] [] (.bn ⟨some 23, .iaddrS 11 21 22, none, [(21, .imm), (22, .imm)]⟩ (fun x6 => [(23, .one (.eptr (Thing.cod.enc x6) 0))]) (fun x6 => []) (fun x6 hr => pe (ei (c := Thing.cod) (k := .i64) hr)) (fun x6 => ?_))
   refine SimI.rn 1 [(24, .agg (Thing.cells x6))] [] (.se ⟨some 25, .prim (.bin .neq 54 false false) [20, 24], none, [(20, .imm), (24, .imm)]⟩ [(25, qb (!(Thing.eqb x5 x6)))] [] (pe (ep (Thing_eqn x5 x6 _ _))) (.dn (.thenN (.cd _ ?_ ?_))))
   ·exact Sim.sr 1 [(4, qb false)] [] (.ret (.blockR (.thenR (.loopR (.blockR (.thenR .fn))))))
   ·refine Sim.skip (.blockN (.thenN (.region0 (.rd 3 (rp [5, 16] (qj (iw .i64 (i3 + 1))) ++ [(15, qj i3)]) [] (.loopN (.pr [0, 1, 5] [] [] [(0, .one (vw Thing.cod a0)), (1, .one (vw Thing.cod a1)), (5, qj (iw .i64 (i3 + 1)))] [] ?_))))))
    exact ih_l4 (iw .i64 (i3 + 1))
  ·exact Sim.exit (.thenX (.loopX (.blockX (.thenN (.sr 1 [(4, qb true)] [] (.ret .fn))))))
def F19 (n : Nat) (a0 a1 : (List Thing)) : Option Bool :=
 if ((a0).length : Int) != ((a1).length : Int) then
  some false
 else
  F19_l4 n a0 a1 (n + 8) 0
theorem F19_ok (n : Nat) (a0 a1 : (List Thing)) : ∀ r, F19 n a0 a1 = some r → D 19 [.one (vw Thing.cod a0), .one (vw Thing.cod a1)] [] = some (F19_e r) := by
 refine fn_to (D := D) (n := n + 8) (nt := 26) (rs := pc19_r) (c := p19c34) (L := [(0, .one (vw Thing.cod a0)), (1, .one (vw Thing.cod a1))]) (M := []) (k := 0) rfl rfl rfl rfl rfl rfl rfl ?_
 unfold F19
 refine Sim.sr 1 [(4, qb false)] [] (.seq (.sr 5 [(10, qb (((a0).length : Int) != ((a1).length : Int))), (9, qj ((a1).length : Int)), (8, .one (vw Thing.cod a1)), (7, qj ((a0).length : Int)), (6, .one (vw Thing.cod a0))] [] (.cd _ ?_ ?_)))
 ·exact Sim.sr 1 [(4, qb false)] [] (.ret (.thenR .fn))
 ·refine Sim.skip (.thenN (.seq (.sr 1 [(5, qj 0)] [] (.block (.loop (.pr [0, 1, 5] [] [] [(0, .one (vw Thing.cod a0)), (1, .one (vw Thing.cod a1)), (5, qj 0)] [] ?_))))))
  exact F19_l4_ok n a0 a1 (n + 8) 0
def F21_e : Bool → PV × List Ob := fun r => (.one (lb r), [])
def F21_l4 (n : Nat) (a0 a1 : (List Event)) : Nat → Int → Option Bool
 | 0, _ => none
 | m + 1, i3 =>
  if decide (i3 < ((a0).length : Int)) then
   (ix a0 i3).bind fun (x5 : Event) =>
   (ix a1 i3).bind fun (x6 : Event) =>
   if !(Event.eqb x5 x6) then
    some false
   else
    (F21_l4 n a0 a1 m) (IntKind.wrap .i64 (i3 + 1))
  else
   some true
theorem F21_l4_ok (n : Nat) (a0 a1 : (List Event)) : ∀ (m : Nat) (i3 : Int), SimL Try.prog D (n + 8) m p21c25 [(0, .one (vw Event.cod a0)), (1, .one (vw Event.cod a1)), (5, qj i3)] [] (F21_l4 n a0 a1 m i3) (QB 0 (QT Try.prog D (n + 8) p21c31 (QF false pc21_r 0 F21_e))) := by
 intro m_l4
 induction m_l4 with
 | zero => intro i3; exact SimL.zero'  rfl
 | succ m_l4 ih_l4 =>
  intro i3
  refine SimL.succ ?_
  unfold F21_l4
  refine Sim.seq (.seq (.rg [(0, .one (vw Event.cod a0)), (1, .one (vw Event.cod a1)), (5, qj i3)] [] (.rd 4 [(14, qb (decide (i3 < ((a0).length : Int)))), (13, qj ((a0).length : Int)), (12, .one (vw Event.cod a0)), (11, qj i3)] [] (.thenN (.cd _ ?_ ?_)))))
  ·refine Sim.skip (.thenN (.seq (.block (.st 2 [(18, qj i3), (17, .one (vw Event.cod a0))] [] (.bn ⟨some 19, .iaddrS 25 17 18, none, [(17, .imm), (18, .imm)]⟩ (fun x5 => [(19, .one (.eptr (Event.cod.enc x5) 0))]) (fun x5 => []) (fun x5 hr => pe (ei (c := Event.cod) (k := .i64) hr)) (fun x5 => ?_))))))
   refine SimI.rn 3 [(22, qj i3), (21, .one (vw Event.cod a1)), (20, .agg (Event.cells x5))] [] (.bn ⟨some 23, .iaddrS 25 21 22, none, [(21, .imm), (22, .imm)]⟩ (fun x6 => [(23, .one (.eptr (Event.cod.enc x6) 0))]) (fun x6 => []) (fun x6 hr => pe (ei (c := Event.cod) (k := .i64) hr)) (fun x6 => ?_))
   refine SimI.rn 1 [(24, .agg (Event.cells x6))] [] (.se ⟨some 25, .prim (.bin .neq 58 false false) [20, 24], none, [(20, .imm), (24, .imm)]⟩ [(25, qb (!(Event.eqb x5 x6)))] [] (pe (ep (Event_eqn x5 x6 _ _))) (.dn (.thenN (.cd _ ?_ ?_))))
   ·exact Sim.sr 1 [(4, qb false)] [] (.ret (.blockR (.thenR (.loopR (.blockR (.thenR .fn))))))
   ·refine Sim.skip (.blockN (.thenN (.region0 (.rd 3 (rp [5, 16] (qj (iw .i64 (i3 + 1))) ++ [(15, qj i3)]) [] (.loopN (.pr [0, 1, 5] [] [] [(0, .one (vw Event.cod a0)), (1, .one (vw Event.cod a1)), (5, qj (iw .i64 (i3 + 1)))] [] ?_))))))
    exact ih_l4 (iw .i64 (i3 + 1))
  ·exact Sim.exit (.thenX (.loopX (.blockX (.thenN (.sr 1 [(4, qb true)] [] (.ret .fn))))))
def F21 (n : Nat) (a0 a1 : (List Event)) : Option Bool :=
 if ((a0).length : Int) != ((a1).length : Int) then
  some false
 else
  F21_l4 n a0 a1 (n + 8) 0
theorem F21_ok (n : Nat) (a0 a1 : (List Event)) : ∀ r, F21 n a0 a1 = some r → D 21 [.one (vw Event.cod a0), .one (vw Event.cod a1)] [] = some (F21_e r) := by
 refine fn_to (D := D) (n := n + 8) (nt := 26) (rs := pc21_r) (c := p21c34) (L := [(0, .one (vw Event.cod a0)), (1, .one (vw Event.cod a1))]) (M := []) (k := 0) rfl rfl rfl rfl rfl rfl rfl ?_
 unfold F21
 refine Sim.sr 1 [(4, qb false)] [] (.seq (.sr 5 [(10, qb (((a0).length : Int) != ((a1).length : Int))), (9, qj ((a1).length : Int)), (8, .one (vw Event.cod a1)), (7, qj ((a0).length : Int)), (6, .one (vw Event.cod a0))] [] (.cd _ ?_ ?_)))
 ·exact Sim.sr 1 [(4, qb false)] [] (.ret (.thenR .fn))
 ·refine Sim.skip (.thenN (.seq (.sr 1 [(5, qj 0)] [] (.block (.loop (.pr [0, 1, 5] [] [] [(0, .one (vw Event.cod a0)), (1, .one (vw Event.cod a1)), (5, qj 0)] [] ?_))))))
  exact F21_l4_ok n a0 a1 (n + 8) 0
def F4_e : Bool → PV × List Ob := fun r => (.one (lb r), [])
def F4_l86 (n : Nat) (a1 : Int) (l6 l24 : (List Frame)) : Nat → Int → Int → Int → Int → Int → Int → (List Thing) → (List Event) → (List (Key × (List Event))) → Int → Int → Int → Int → Int → (List Thing) → (List Event) → (List (Key × (List Event))) → Option Bool
 | 0, _, _, _, _, _, _, _, _, _, _, _, _, _, _, _, _, _ => none
 | m + 1, i69, i70, i71, i72, i73, i74, l75, l76, l77, i78, i79, i80, i81, i82, l83, l84, l85 =>
  if decide (i69 < ((l6).length : Int)) then
   (ix l6 i69).bind fun (x87 : Frame) =>
   (F15 n (View.mk i70 i71 i72 i73 i74 l75 l76 l77) x87).bind fun (r88 : (Bool × View)) =>
   if !(r88.1) then
    some false
   else
    (ix l24 i69).bind fun (x89 : Frame) =>
    (F15 n (View.mk i78 i79 i80 i81 i82 l83 l84 l85) x89).bind fun (r90 : (Bool × View)) =>
    if !(r90.1) then
     some false
    else
     (ix l24 i69).bind fun (x91 : Frame) =>
     (F15 n r90.2 x91).bind fun (r92 : (Bool × View)) =>
     (F4_l86 n a1 l6 l24 m) (IntKind.wrap .i64 (i69 + 1)) r88.2.client r88.2.session r88.2.n r88.2.beat r88.2.start r88.2.things r88.2.log_ r88.2.wait r92.2.client r92.2.session r92.2.n r92.2.beat r92.2.start r92.2.things r92.2.log_ r92.2.wait
  else
   (F17 n (View.mk i70 i71 i72 i73 i74 l75 l76 l77)).bind fun (r93 : (Int × View)) =>
   if r93.1 == (IntKind.wrap .i64 (2 + IntKind.wrap .i64 (IntKind.wrap .i64 (Int.tmod a1 8) + 1))) then
    (F17 n (View.mk i78 i79 i80 i81 i82 l83 l84 l85)).bind fun (r94 : (Int × View)) =>
    if r94.1 == (IntKind.wrap .i64 (2 + IntKind.wrap .i64 (IntKind.wrap .i64 (Int.tmod a1 8) + 1))) then
     (F18 n r93.2).bind fun (r95 : (Int × View)) =>
     if r95.1 == 0 then
      (F18 n r94.2).bind fun (r96 : (Int × View)) =>
      if r96.1 == 0 then
       (F20 n r95.2).bind fun (r97 : ((List Thing) × View)) =>
       (F20 n r96.2).bind fun (r98 : ((List Thing) × View)) =>
       (F19 n r97.1 r98.1).bind fun (r99 : Bool) =>
       if r99 then
        (F22 n r97.2).bind fun (r100 : ((List Event) × View)) =>
        (F22 n r98.2).bind fun (r101 : ((List Event) × View)) =>
        (F21 n r100.1 r101.1).bind fun (r102 : Bool) =>
        some r102
       else
        some false
      else
       some false
     else
      some false
    else
     some false
   else
    some false
theorem F4_l86_ok (n : Nat) (a1 : Int) (l6 l24 : (List Frame)) : ∀ (m : Nat) (i69 i70 i71 i72 i73 i74 : Int) (l75 : (List Thing)) (l76 : (List Event)) (l77 : (List (Key × (List Event)))) (i78 i79 i80 i81 i82 : Int) (l83 : (List Thing)) (l84 : (List Event)) (l85 : (List (Key × (List Event)))), SimL Try.prog D (n + 8) m p4c84 [(10, qj (IntKind.wrap .i64 (IntKind.wrap .i64 (Int.tmod a1 8) + 1))), (11, .one (.osl 100011 0 0 (l6).length)), (16, .one (.osl 100071 0 0 (l24).length)), (20, qp 300000 0), (21, qp 300003 0), (22, qj i69)] (W12 l6 l24 i70 i71 i72 i73 i74 l75 l76 l77 i78 i79 i80 i81 i82 l83 l84 l85) (F4_l86 n a1 l6 l24 m i69 i70 i71 i72 i73 i74 l75 l76 l77 i78 i79 i80 i81 i82 l83 l84 l85) (QB 6 (QT Try.prog D (n + 8) p4c90 (QF false pc4_r 0 F4_e))) := by
 intro m_l86
 induction m_l86 with
 | zero => intro i69 i70 i71 i72 i73 i74 l75 l76 l77 i78 i79 i80 i81 i82 l83 l84 l85; exact SimL.zero'  rfl
 | succ m_l86 ih_l86 =>
  intro i69 i70 i71 i72 i73 i74 l75 l76 l77 i78 i79 i80 i81 i82 l83 l84 l85
  refine SimL.succ ?_
  unfold F4_l86
  refine Sim.seq (.seq (.rg [(10, qj (iw .i64 (iw .i64 (Int.tmod a1 8) + 1))), (11, .one (.osl 100011 0 0 (l6).length)), (16, .one (.osl 100071 0 0 (l24).length)), (20, qp 300000 0), (21, qp 300003 0), (22, qj i69)] (W12 l6 l24 i70 i71 i72 i73 i74 l75 l76 l77 i78 i79 i80 i81 i82 l83 l84 l85) (.rd 4 [(117, qb (decide (i69 < ((l6).length : Int)))), (116, qj ((l6).length : Int)), (115, .one (.osl 100011 0 0 (l6).length)), (114, qj i69)] [] (.thenN (.cd _ ?_ ?_)))))
  ·refine Sim.skip (.thenN (.seq (.block (.seq (.st 3 [(122, qj i69), (121, .one (.osl 100011 0 0 (l6).length)), (120, qp 300000 0)] [] (.bindh (og := ix l6 i69) ⟨some 123, .iaddrS 6 121 122, none, []⟩ (fun x87 => [(123, .one (.aptr 100011 0 ((i69).toNat) 0))]) (fun x87 => []) (by kernel_rfl) (fun x87 hr => pe (eff_idxO (c := Frame.cod) (l := l6) (g := 0) (el := 32) (k := .i64) (n := i69) (by kernel_rfl) (by kernel_rfl) (by kernel_rfl) (by kernel_rfl) hr)) (fun x87 hx87 => ?_)))))))
   refine SimI.se ⟨some 124, .load true 6 123, none, []⟩ [(124, .agg (w0 x87))] [] (pe (eff_loadO (c := Frame.cod) (a := x87) (l := l6) (key := 100011) (g := 0) (el := 32) (off := 0) (i := (i69).toNat) (by kernel_rfl) (by kernel_rfl) (ix_some hx87).2.2.2 (by kernel_rfl))) (.bn ⟨some 125, .gcall false false [300000, 300001, 300002] [[], [(5, 25)]] 15 [120, 124], none, []⟩ (fun r88 => [(125, qb r88.1)]) (fun r88 => [(300000, some (.cells [lj r88.2.client, lj r88.2.session, lj r88.2.n, lj r88.2.beat, lj r88.2.start, vw Thing.cod r88.2.things, .osl 300001 (0 + 1) 0 (r88.2.log_).length, .mp 300002])), (300001, some (.arr 58 Event.cod.sz (0 + 1) (r88.2.log_).length (getOf Event.cod r88.2.log_))), (300002, some (.map (mapOf Key.cells Event.cod r88.2.wait)))]) (fun r88 hr => pe (gq (ks := [300000, 300001, 300002]) (ARGS := [qp 300000 0, .agg (w0 x87)]) (F15_ok _ _ _ _ hr))) (fun r88 => ?_))
   refine SimI.rn 2 [(127, qb (!(r88.1))), (126, qb (!(r88.1)))] [] (.sp 127 _ ?_ ?_)
   ·exact SimI.rd 8 ([(135, qb true)] ++ rp [134, 133, 132, 131, 130, 129, 128] tz) [] (.thenN (.ct (.sr 1 [(8, qb false)] [] (.ret (.thenR (.blockR (.thenR (.loopR (.blockR (.thenR .fn))))))))))
   ·refine SimI.rn 3 [(130, qj i69), (129, .one (.osl 100071 0 0 (l24).length)), (128, qp 300003 0)] [] (.bindh (og := ix l24 i69) ⟨some 131, .iaddrS 6 129 130, some (127, false), []⟩ (fun x89 => [(131, .one (.aptr 100071 0 ((i69).toNat) 0))]) (fun x89 => []) (by kernel_rfl) (fun x89 hr => pe (eff_idxO (c := Frame.cod) (l := l24) (g := 0) (el := 32) (k := .i64) (n := i69) (by kernel_rfl) (by kernel_rfl) (by kernel_rfl) (by kernel_rfl) hr)) (fun x89 hx89 => ?_))
    refine SimI.se ⟨some 132, .load true 6 131, some (127, false), []⟩ [(132, .agg (w0 x89))] [] (pe (eff_loadO (c := Frame.cod) (a := x89) (l := l24) (key := 100071) (g := 0) (el := 32) (off := 0) (i := (i69).toNat) (by kernel_rfl) (by kernel_rfl) (ix_some hx89).2.2.2 (by kernel_rfl))) (.bn ⟨some 133, .gcall false false [300003, 300004, 300005] [[], [(5, 25)]] 15 [128, 132], some (127, false), []⟩ (fun r90 => [(133, qb r90.1)]) (fun r90 => [(300003, some (.cells [lj r90.2.client, lj r90.2.session, lj r90.2.n, lj r90.2.beat, lj r90.2.start, vw Thing.cod r90.2.things, .osl 300004 (0 + 1) 0 (r90.2.log_).length, .mp 300005])), (300004, some (.arr 58 Event.cod.sz (0 + 1) (r90.2.log_).length (getOf Event.cod r90.2.log_))), (300005, some (.map (mapOf Key.cells Event.cod r90.2.wait)))]) (fun r90 hr => pe (gq (ks := [300003, 300004, 300005]) (ARGS := [qp 300003 0, .agg (w0 x89)]) (F15_ok _ _ _ _ hr))) (fun r90 => ?_))
    refine SimI.rd 2 [(135, qb (!(r90.1))), (134, qb (!(r90.1)))] [] (.thenN (.cd _ ?_ ?_))
    ·exact Sim.sr 1 [(8, qb false)] [] (.ret (.thenR (.blockR (.thenR (.loopR (.blockR (.thenR .fn)))))))
    ·refine Sim.skip (.thenN (.region0 (.rn 3 [(138, qj i69), (137, .one (.osl 100071 0 0 (l24).length)), (136, qp 300003 0)] [] (.bindh (og := ix l24 i69) ⟨some 139, .iaddrS 6 137 138, none, []⟩ (fun x91 => [(139, .one (.aptr 100071 0 ((i69).toNat) 0))]) (fun x91 => []) (by kernel_rfl) (fun x91 hr => pe (eff_idxO (c := Frame.cod) (l := l24) (g := 0) (el := 32) (k := .i64) (n := i69) (by kernel_rfl) (by kernel_rfl) (by kernel_rfl) (by kernel_rfl) hr)) (fun x91 hx91 => ?_)))))
     refine SimI.se ⟨some 140, .load true 6 139, none, []⟩ [(140, .agg (w0 x91))] [] (pe (eff_loadO (c := Frame.cod) (a := x91) (l := l24) (key := 100071) (g := 0) (el := 32) (off := 0) (i := (i69).toNat) (by kernel_rfl) (by kernel_rfl) (ix_some hx91).2.2.2 (by kernel_rfl))) (.bn ⟨some 141, .gcall false false [300003, 300004, 300005] [[], [(5, 25)]] 15 [136, 140], none, []⟩ (fun r92 => [(141, qb r92.1)]) (fun r92 => [(300003, some (.cells [lj r92.2.client, lj r92.2.session, lj r92.2.n, lj r92.2.beat, lj r92.2.start, vw Thing.cod r92.2.things, .osl 300004 ((0 + 1) + 1) 0 (r92.2.log_).length, .mp 300005])), (300004, some (.arr 58 Event.cod.sz ((0 + 1) + 1) (r92.2.log_).length (getOf Event.cod r92.2.log_))), (300005, some (.map (mapOf Key.cells Event.cod r92.2.wait)))]) (fun r92 hr => pe (gq (ks := [300003, 300004, 300005]) (ARGS := [qp 300003 0, .agg (w0 x91)]) (F15_ok _ _ _ _ hr))) (fun r92 => ?_))
     refine SimI.dn (.blockN (.thenN (.region0 (.rd 3 (rp [22, 119] (qj (iw .i64 (i69 + 1))) ++ [(118, qj i69)]) [] (.loopN (.pr [10, 11, 16, 20, 21, 22] [100011, 100071, 300000, 300001, 300002, 300003, 300004, 300005] [] [(10, qj (iw .i64 (iw .i64 (Int.tmod a1 8) + 1))), (11, .one (.osl 100011 0 0 (l6).length)), (16, .one (.osl 100071 0 0 (l24).length)), (20, qp 300000 0), (21, qp 300003 0), (22, qj (iw .i64 (i69 + 1)))] [(100011, some (.arr 32 Frame.cod.sz 0 (l6).length (getOf Frame.cod l6))), (100071, some (.arr 32 Frame.cod.sz 0 (l24).length (getOf Frame.cod l24))), (300000, some (.cells [lj r88.2.client, lj r88.2.session, lj r88.2.n, lj r88.2.beat, lj r88.2.start, vw Thing.cod r88.2.things, .osl 300001 0 0 (r88.2.log_).length, .mp 300002])), (300001, some (.arr 58 Event.cod.sz 0 (r88.2.log_).length (getOf Event.cod r88.2.log_))), (300002, some (.map (mapOf Key.cells Event.cod r88.2.wait))), (300003, some (.cells [lj r92.2.client, lj r92.2.session, lj r92.2.n, lj r92.2.beat, lj r92.2.start, vw Thing.cod r92.2.things, .osl 300004 0 0 (r92.2.log_).length, .mp 300005])), (300004, some (.arr 58 Event.cod.sz 0 (r92.2.log_).length (getOf Event.cod r92.2.log_))), (300005, some (.map (mapOf Key.cells Event.cod r92.2.wait)))] ?_))))))
     exact ih_l86 (iw .i64 (i69 + 1)) r88.2.client r88.2.session r88.2.n r88.2.beat r88.2.start r88.2.things r88.2.log_ r88.2.wait r92.2.client r92.2.session r92.2.n r92.2.beat r92.2.start r92.2.things r92.2.log_ r92.2.wait
  ·refine Sim.exit (.thenX (.loopX (.blockX (.thenN (.st 1 [(142, qp 300000 0)] [] (.bn ⟨some 143, .gcall false false [300000, 300001, 300002] [[]] 17 [142], none, []⟩ (fun r93 => [(143, qj r93.1)]) (fun r93 => [(300000, some (.cells [lj r93.2.client, lj r93.2.session, lj r93.2.n, lj r93.2.beat, lj r93.2.start, vw Thing.cod r93.2.things, .osl 300001 (0 + 1) 0 (r93.2.log_).length, .mp 300002])), (300001, some (.arr 58 Event.cod.sz (0 + 1) (r93.2.log_).length (getOf Event.cod r93.2.log_))), (300002, some (.map (mapOf Key.cells Event.cod r93.2.wait)))]) (fun r93 hr => pe (gq (ks := [300000, 300001, 300002]) (ARGS := [qp 300000 0]) (F17_ok _ _ _ hr))) (fun r93 => ?_)))))))
   refine SimI.rn 4 (rp [147, 146] (qb (r93.1 == (iw .i64 (2 + IntKind.wrap .i64 (iw .i64 (Int.tmod a1 8) + 1))))) ++ [(145, qj (iw .i64 (2 + IntKind.wrap .i64 (iw .i64 (Int.tmod a1 8) + 1)))), (144, qj (iw .i64 (iw .i64 (Int.tmod a1 8) + 1)))]) [] (.sp 147 _ ?_ ?_)
   ·refine SimI.rn 1 [(148, qp 300003 0)] [] (.bn ⟨some 149, .gcall false false [300003, 300004, 300005] [[]] 17 [148], some (147, true), []⟩ (fun r94 => [(149, qj r94.1)]) (fun r94 => [(300003, some (.cells [lj r94.2.client, lj r94.2.session, lj r94.2.n, lj r94.2.beat, lj r94.2.start, vw Thing.cod r94.2.things, .osl 300004 (0 + 1) 0 (r94.2.log_).length, .mp 300005])), (300004, some (.arr 58 Event.cod.sz (0 + 1) (r94.2.log_).length (getOf Event.cod r94.2.log_))), (300005, some (.map (mapOf Key.cells Event.cod r94.2.wait)))]) (fun r94 hr => pe (gq (ks := [300003, 300004, 300005]) (ARGS := [qp 300003 0]) (F17_ok _ _ _ hr))) (fun r94 => ?_))
    refine SimI.rn 5 (rp [154, 153, 152] (qb (r94.1 == (iw .i64 (2 + IntKind.wrap .i64 (iw .i64 (Int.tmod a1 8) + 1))))) ++ [(151, qj (iw .i64 (2 + IntKind.wrap .i64 (iw .i64 (Int.tmod a1 8) + 1)))), (150, qj (iw .i64 (iw .i64 (Int.tmod a1 8) + 1)))]) [] (.sp 154 _ ?_ ?_)
    ·refine SimI.rn 1 [(155, qp 300000 0)] [] (.bn ⟨some 156, .gcall false false [300000, 300001, 300002] [[]] 18 [155], some (154, true), []⟩ (fun r95 => [(156, qj r95.1)]) (fun r95 => [(300000, some (.cells [lj r95.2.client, lj r95.2.session, lj r95.2.n, lj r95.2.beat, lj r95.2.start, vw Thing.cod r95.2.things, .osl 300001 ((0 + 1) + 1) 0 (r95.2.log_).length, .mp 300002])), (300001, some (.arr 58 Event.cod.sz ((0 + 1) + 1) (r95.2.log_).length (getOf Event.cod r95.2.log_))), (300002, some (.map (mapOf Key.cells Event.cod r95.2.wait)))]) (fun r95 hr => pe (gq (ks := [300000, 300001, 300002]) (ARGS := [qp 300000 0]) (F18_ok _ _ _ hr))) (fun r95 => ?_))
     refine SimI.rn 3 (rp [159, 158, 157] (qb (r95.1 == 0))) [] (.sp 159 _ ?_ ?_)
     ·refine SimI.rn 1 [(160, qp 300003 0)] [] (.bn ⟨some 161, .gcall false false [300003, 300004, 300005] [[]] 18 [160], some (159, true), []⟩ (fun r96 => [(161, qj r96.1)]) (fun r96 => [(300003, some (.cells [lj r96.2.client, lj r96.2.session, lj r96.2.n, lj r96.2.beat, lj r96.2.start, vw Thing.cod r96.2.things, .osl 300004 ((0 + 1) + 1) 0 (r96.2.log_).length, .mp 300005])), (300004, some (.arr 58 Event.cod.sz ((0 + 1) + 1) (r96.2.log_).length (getOf Event.cod r96.2.log_))), (300005, some (.map (mapOf Key.cells Event.cod r96.2.wait)))]) (fun r96 hr => pe (gq (ks := [300003, 300004, 300005]) (ARGS := [qp 300003 0]) (F18_ok _ _ _ hr))) (fun r96 => ?_))
      refine SimI.rn 3 (rp [164, 163, 162] (qb (r96.1 == 0))) [] (.sp 164 _ ?_ ?_)
      ·refine SimI.rn 1 [(165, qp 300000 0)] [] (.bn ⟨some 166, .gcall false false [300000, 300001, 300002] [[]] 20 [165], some (164, true), []⟩ (fun r97 => [(166, .one (vw Thing.cod r97.1))]) (fun r97 => [(300000, some (.cells [lj r97.2.client, lj r97.2.session, lj r97.2.n, lj r97.2.beat, lj r97.2.start, vw Thing.cod r97.2.things, .osl 300001 (((0 + 1) + 1) + 1) 0 (r97.2.log_).length, .mp 300002])), (300001, some (.arr 58 Event.cod.sz (((0 + 1) + 1) + 1) (r97.2.log_).length (getOf Event.cod r97.2.log_))), (300002, some (.map (mapOf Key.cells Event.cod r97.2.wait)))]) (fun r97 hr => pe (gq (ks := [300000, 300001, 300002]) (ARGS := [qp 300000 0]) (F20_ok _ _ _ hr))) (fun r97 => ?_))
       refine SimI.rn 1 [(167, qp 300003 0)] [] (.bn ⟨some 168, .gcall false false [300003, 300004, 300005] [[]] 20 [167], some (164, true), []⟩ (fun r98 => [(168, .one (vw Thing.cod r98.1))]) (fun r98 => [(300003, some (.cells [lj r98.2.client, lj r98.2.session, lj r98.2.n, lj r98.2.beat, lj r98.2.start, vw Thing.cod r98.2.things, .osl 300004 (((0 + 1) + 1) + 1) 0 (r98.2.log_).length, .mp 300005])), (300004, some (.arr 58 Event.cod.sz (((0 + 1) + 1) + 1) (r98.2.log_).length (getOf Event.cod r98.2.log_))), (300005, some (.map (mapOf Key.cells Event.cod r98.2.wait)))]) (fun r98 hr => pe (gq (ks := [300003, 300004, 300005]) (ARGS := [qp 300003 0]) (F20_ok _ _ _ hr))) (fun r98 => ?_))
       refine SimI.cl 169 true [[(0, 11)], [(0, 11)]] 19 [166, 168] (some (164, true)) _ _ (F19_ok _ _ _) (fun r99 => ?_)
       refine SimI.rn 2 [(171, qb r99), (170, qb r99)] [] (.sp 171 _ ?_ ?_)
       ·refine SimI.rn 1 [(172, qp 300000 0)] [] (.bn ⟨some 173, .gcall false false [300000, 300001, 300002] [[]] 22 [172], some (171, true), []⟩ (fun r100 => [(173, .one (vw Event.cod r100.1))]) (fun r100 => [(300000, some (.cells [lj r100.2.client, lj r100.2.session, lj r100.2.n, lj r100.2.beat, lj r100.2.start, vw Thing.cod r100.2.things, .osl 300001 ((((0 + 1) + 1) + 1) + 1) 0 (r100.2.log_).length, .mp 300002])), (300001, some (.arr 58 Event.cod.sz ((((0 + 1) + 1) + 1) + 1) (r100.2.log_).length (getOf Event.cod r100.2.log_))), (300002, some (.map (mapOf Key.cells Event.cod r100.2.wait)))]) (fun r100 hr => pe (gq (ks := [300000, 300001, 300002]) (ARGS := [qp 300000 0]) (F22_ok _ _ _ hr))) (fun r100 => ?_))
        refine SimI.rn 1 [(174, qp 300003 0)] [] (.bn ⟨some 175, .gcall false false [300003, 300004, 300005] [[]] 22 [174], some (171, true), []⟩ (fun r101 => [(175, .one (vw Event.cod r101.1))]) (fun r101 => [(300003, some (.cells [lj r101.2.client, lj r101.2.session, lj r101.2.n, lj r101.2.beat, lj r101.2.start, vw Thing.cod r101.2.things, .osl 300004 ((((0 + 1) + 1) + 1) + 1) 0 (r101.2.log_).length, .mp 300005])), (300004, some (.arr 58 Event.cod.sz ((((0 + 1) + 1) + 1) + 1) (r101.2.log_).length (getOf Event.cod r101.2.log_))), (300005, some (.map (mapOf Key.cells Event.cod r101.2.wait)))]) (fun r101 hr => pe (gq (ks := [300003, 300004, 300005]) (ARGS := [qp 300003 0]) (F22_ok _ _ _ hr))) (fun r101 => ?_))
        refine SimI.cl 176 true [[(0, 25)], [(0, 25)]] 21 [173, 175] (some (171, true)) _ _ (F21_ok _ _ _) (fun r102 => ?_)
        exact SimI.rd 2 [(8, qb r102), (177, qb r102)] [] (.thenN (.ret .fn))
       ·exact SimI.rd 7 (W28 ++ rp [176, 175, 174, 173, 172] tz) [] (.thenN (.ret .fn))
      ·exact SimI.rd 14 (W28 ++ rp [176, 175, 174, 173, 172] tz ++ W30 ++ rp [169, 168, 167, 166, 165] tz) [] (.thenN (.ret .fn))
     ·exact SimI.rd 19 (W28 ++ rp [176, 175, 174, 173, 172] tz ++ W30 ++ rp [169, 168, 167, 166, 165] tz ++ [(164, qb false), (163, qb false), (162, tz), (161, tz), (160, tz)]) [] (.thenN (.ret .fn))
    ·exact SimI.rd 24 (W28 ++ rp [176, 175, 174, 173, 172] tz ++ W30 ++ rp [169, 168, 167, 166, 165] tz ++ [(164, qb false), (163, qb false), (162, tz), (161, tz), (160, tz), (159, qb false), (158, qb false), (157, tz), (156, tz), (155, tz)]) [] (.thenN (.ret .fn))
   ·exact SimI.rd 31 (W28 ++ rp [176, 175, 174, 173, 172] tz ++ W30 ++ rp [169, 168, 167, 166, 165] tz ++ [(164, qb false), (163, qb false), (162, tz), (161, tz), (160, tz), (159, qb false), (158, qb false), (157, tz), (156, tz), (155, tz), (154, qb false), (153, qb false)] ++ rp [152, 151, 150, 149, 148] tz) [] (.thenN (.ret .fn))
def F4_l26 (n : Nat) (a0 a1 : Int) (a3 : (List Int)) (l6 : (List Frame)) : Nat → (List Frame) → Int → Option Bool
 | 0, _, _ => none
 | m + 1, l24, i25 =>
  if decide (i25 < ((a3).length : Int)) then
   (ix a3 i25).bind fun (x27 : Int) =>
   if ((l24).length : Int) ≠ 0 then
    (ix a3 i25).bind fun (x28 : Int) =>
    if ((l24).length : Int) ≠ 0 then
     (ix l24 (Int.tmod (IntKind.wrap .i64 (IntKind.wrap .u16 (Int.tdiv x28 256))) ((l24).length : Int))).bind fun (x29 : Frame) =>
     (ix l24 (Int.tmod (IntKind.wrap .i64 (Int.tmod x27 256)) ((l24).length : Int))).bind fun (x30 : Frame) =>
     (ix l24 (Int.tmod (IntKind.wrap .i64 (Int.tmod x27 256)) ((l24).length : Int))).bind fun (x31 : Frame) =>
     (ix ((l24).set ((Int.tmod (IntKind.wrap .i64 (Int.tmod x27 256)) ((l24).length : Int)).toNat) x29) (Int.tmod (IntKind.wrap .i64 (IntKind.wrap .u16 (Int.tdiv x28 256))) ((l24).length : Int))).bind fun (x32 : Frame) =>
     (F4_l26 n a0 a1 a3 l6 m) ((((l24).set ((Int.tmod (IntKind.wrap .i64 (Int.tmod x27 256)) ((l24).length : Int)).toNat) x29)).set ((Int.tmod (IntKind.wrap .i64 (IntKind.wrap .u16 (Int.tdiv x28 256))) ((l24).length : Int)).toNat) x30) (IntKind.wrap .i64 (i25 + 1))
    else none
   else none
  else
   (F13 n 0 1 (IntKind.wrap .i64 (IntKind.wrap .i64 (Int.tmod a0 4) + 1))).bind fun (r33 : View) =>
   (F13 n 0 1 (IntKind.wrap .i64 (IntKind.wrap .i64 (Int.tmod a0 4) + 1))).bind fun (r34 : View) =>
   F4_l86 n a1 l6 l24 (n + 8) 0 r33.client r33.session r33.n r33.beat r33.start r33.things r33.log_ r33.wait r34.client r34.session r34.n r34.beat r34.start r34.things r34.log_ r34.wait
theorem F4_l26_ok (n : Nat) (a0 a1 : Int) (a3 : (List Int)) (l6 : (List Frame)) : ∀ (m : Nat) (l24 : (List Frame)) (i25 : Int), SimL Try.prog D (n + 8) m p4c61 [(3, .one (vw (codI .u16) a3)), (9, qj (IntKind.wrap .i64 (IntKind.wrap .i64 (Int.tmod a0 4) + 1))), (10, qj (IntKind.wrap .i64 (IntKind.wrap .i64 (Int.tmod a1 8) + 1))), (11, .one (.osl 100011 0 0 (l6).length)), (16, .one (.osl 100071 0 0 (l24).length)), (17, qj i25)] (W33 l6 l24) (F4_l26 n a0 a1 a3 l6 m l24 i25) (QB 4 (QT Try.prog D (n + 8) p4c92 (QF false pc4_r 0 F4_e))) := by
 intro m_l26
 induction m_l26 with
 | zero => intro l24 i25; exact SimL.zero'  rfl
 | succ m_l26 ih_l26 =>
  intro l24 i25
  refine SimL.succ ?_
  unfold F4_l26
  refine Sim.seq (.seq (.rg [(3, .one (vw (codI .u16) a3)), (9, qj (iw .i64 (iw .i64 (Int.tmod a0 4) + 1))), (10, qj (iw .i64 (iw .i64 (Int.tmod a1 8) + 1))), (11, .one (.osl 100011 0 0 (l6).length)), (16, .one (.osl 100071 0 0 (l24).length)), (17, qj i25)] (W33 l6 l24) (.rd 4 [(75, qb (decide (i25 < ((a3).length : Int)))), (74, qj ((a3).length : Int)), (73, .one (vw (codI .u16) a3)), (72, qj i25)] [] (.thenN (.cd _ ?_ ?_)))))
  ·refine Sim.skip (.thenN (.seq (.block (.st 2 [(79, qj i25), (78, .one (vw (codI .u16) a3))] [] (.bn ⟨some 80, .iaddrS 1 78 79, none, [(78, .imm), (79, .imm)]⟩ (fun x27 => [(80, .one (.eptr ((codI .u16).enc x27) 0))]) (fun x27 => []) (fun x27 hr => pe (ei (c := (codI .u16)) (k := .i64) hr)) (fun x27 => ?_))))))
   refine SimI.rn 5 [(85, qj ((l24).length : Int)), (84, .one (.osl 100071 0 0 (l24).length)), (83, qj (iw .i64 (Int.tmod x27 256))), (82, .one (li .u16 (Int.tmod x27 256))), (81, .one (li .u16 x27))] [] (.gp 86 (.bin .rem 3 false false) [83, 85] none [(83, .imm), (85, .imm)] (fun hc => pr_rem _ _ _ .i64 (iw .i64 (Int.tmod x27 256)) ((l24).length : Int) hc) (.rn 2 [(88, qj i25), (87, .one (vw (codI .u16) a3))] [] (.bn ⟨some 89, .iaddrS 1 87 88, none, [(87, .imm), (88, .imm)]⟩ (fun x28 => [(89, .one (.eptr ((codI .u16).enc x28) 0))]) (fun x28 => []) (fun x28 hr => pe (ei (c := (codI .u16)) (k := .i64) hr)) (fun x28 => ?_))))
   refine SimI.rn 5 [(94, qj ((l24).length : Int)), (93, .one (.osl 100071 0 0 (l24).length)), (92, qj (iw .i64 (iw .u16 (Int.tdiv x28 256)))), (91, .one (li .u16 (iw .u16 (Int.tdiv x28 256)))), (90, .one (li .u16 x28))] [] (.gp 95 (.bin .rem 3 false false) [92, 94] none [(92, .imm), (94, .imm)] (fun hc => pr_rem _ _ _ .i64 (iw .i64 (iw .u16 (Int.tdiv x28 256))) ((l24).length : Int) hc) (.rd 2 [(19, qj (Int.tmod (iw .i64 (iw .u16 (Int.tdiv x28 256))) ((l24).length : Int))), (18, qj (Int.tmod (iw .i64 (Int.tmod x27 256)) ((l24).length : Int)))] [] (.thenN (.region0 (.rn 6 [(101, qj (Int.tmod (iw .i64 (iw .u16 (Int.tdiv x28 256))) ((l24).length : Int))), (100, .one (.osl 100071 0 0 (l24).length)), (99, qj (Int.tmod (iw .i64 (iw .u16 (Int.tdiv x28 256))) ((l24).length : Int))), (98, .one (.osl 100071 0 0 (l24).length)), (97, qj (Int.tmod (iw .i64 (Int.tmod x27 256)) ((l24).length : Int))), (96, .one (.osl 100071 0 0 (l24).length))] [] (.bindh (og := ix l24 (Int.tmod (iw .i64 (iw .u16 (Int.tdiv x28 256))) ((l24).length : Int))) ⟨some 102, .iaddrS 6 100 101, none, [(100, Hint.obj 100071), (101, .imm)]⟩ (fun x29 => [(102, .one (.aptr 100071 0 ((Int.tmod (iw .i64 (iw .u16 (Int.tdiv x28 256))) ((l24).length : Int)).toNat) 0))]) (fun x29 => []) (by kernel_rfl) (fun x29 hr => pe (eff_idxO (c := Frame.cod) (l := l24) (g := 0) (el := 32) (k := .i64) (n := Int.tmod (iw .i64 (iw .u16 (Int.tdiv x28 256))) ((l24).length : Int)) (by kernel_rfl) (by kernel_rfl) (by kernel_rfl) (by kernel_rfl) hr)) (fun x29 hx29 => ?_)))))))
   refine SimI.se ⟨some 103, .load true 6 102, none, [(102, Hint.obj 100071)]⟩ [(103, .agg (w0 x29))] [] (pe (eff_loadO (c := Frame.cod) (a := x29) (l := l24) (key := 100071) (g := 0) (el := 32) (off := 0) (i := (Int.tmod (iw .i64 (iw .u16 (Int.tdiv x28 256))) ((l24).length : Int)).toNat) (by kernel_rfl) (by kernel_rfl) (ix_some hx29).2.2.2 (by kernel_rfl))) (.rn 2 [(105, qj (Int.tmod (iw .i64 (Int.tmod x27 256)) ((l24).length : Int))), (104, .one (.osl 100071 0 0 (l24).length))] [] (.bindh (og := ix l24 (Int.tmod (iw .i64 (Int.tmod x27 256)) ((l24).length : Int))) ⟨some 106, .iaddrS 6 104 105, none, [(104, Hint.obj 100071), (105, .imm)]⟩ (fun x30 => [(106, .one (.aptr 100071 0 ((Int.tmod (iw .i64 (Int.tmod x27 256)) ((l24).length : Int)).toNat) 0))]) (fun x30 => []) (by kernel_rfl) (fun x30 hr => pe (eff_idxO (c := Frame.cod) (l := l24) (g := 0) (el := 32) (k := .i64) (n := Int.tmod (iw .i64 (Int.tmod x27 256)) ((l24).length : Int)) (by kernel_rfl) (by kernel_rfl) (by kernel_rfl) (by kernel_rfl) hr)) (fun x30 hx30 => ?_)))
   refine SimI.se ⟨some 107, .load true 6 106, none, [(106, Hint.obj 100071)]⟩ [(107, .agg (w0 x30))] [] (pe (eff_loadO (c := Frame.cod) (a := x30) (l := l24) (key := 100071) (g := 0) (el := 32) (off := 0) (i := (Int.tmod (iw .i64 (Int.tmod x27 256)) ((l24).length : Int)).toNat) (by kernel_rfl) (by kernel_rfl) (ix_some hx30).2.2.2 (by kernel_rfl))) (.bindh (og := ix l24 (Int.tmod (iw .i64 (Int.tmod x27 256)) ((l24).length : Int))) ⟨some 108, .iaddrS 6 96 97, none, [(96, Hint.obj 100071), (97, .imm)]⟩ (fun x31 => [(108, .one (.aptr 100071 0 ((Int.tmod (iw .i64 (Int.tmod x27 256)) ((l24).length : Int)).toNat) 0))]) (fun x31 => []) (by kernel_rfl) (fun x31 hr => pe (eff_idxO (c := Frame.cod) (l := l24) (g := 0) (el := 32) (k := .i64) (n := Int.tmod (iw .i64 (Int.tmod x27 256)) ((l24).length : Int)) (by kernel_rfl) (by kernel_rfl) (by kernel_rfl) (by kernel_rfl) hr)) (fun x31 hx31 => ?_))
   refine SimI.se ⟨none, .storeV [(5, 25)] 6 108 103, none, [(108, Hint.obj 100071), (103, .imm)]⟩ [] [(100071, some (.arr 32 Frame.cod.sz 0 (((l24).set ((Int.tmod (iw .i64 (Int.tmod x27 256)) ((l24).length : Int)).toNat) x29)).length (getOf Frame.cod ((l24).set ((Int.tmod (iw .i64 (Int.tmod x27 256)) ((l24).length : Int)).toNat) x29))))] (pOp_eff_ (by kernel_rfl) (by kernel_rfl) (eff_storeOV (c := Frame.cod) (key := 100071) (g := 0) (el := 32) (l := l24) (i := (Int.tmod (iw .i64 (Int.tmod x27 256)) ((l24).length : Int)).toNat) (b := x29) (by kernel_rfl) (by kernel_rfl) (by kernel_rfl) (ix_some hx31).2.2.1 (fun _ => rfl) rfl (by kernel_rfl))) (.slot 16 (.one (.osl 100071 0 0 (((l24).set ((Int.tmod (iw .i64 (Int.tmod x27 256)) ((l24).length : Int)).toNat) x29)).length)) (Eq.trans (b := PV.one (.osl 100071 0 0 (l24).length)) (by kernel_rfl) (congrArg (fun z => PV.one (Lf.osl 100071 0 0 z)) List.length_set.symm)) (.slot 98 (.one (.osl 100071 0 0 (((l24).set ((Int.tmod (iw .i64 (Int.tmod x27 256)) ((l24).length : Int)).toNat) x29)).length)) (Eq.trans (b := PV.one (.osl 100071 0 0 (l24).length)) (by kernel_rfl) (congrArg (fun z => PV.one (Lf.osl 100071 0 0 z)) List.length_set.symm)) (.bindh (og := ix ((l24).set ((Int.tmod (iw .i64 (Int.tmod x27 256)) ((l24).length : Int)).toNat) x29) (Int.tmod (iw .i64 (iw .u16 (Int.tdiv x28 256))) ((l24).length : Int))) ⟨some 109, .iaddrS 6 98 99, none, [(98, Hint.obj 100071), (99, .imm)]⟩ (fun x32 => [(109, .one (.aptr 100071 0 ((Int.tmod (iw .i64 (iw .u16 (Int.tdiv x28 256))) ((l24).length : Int)).toNat) 0))]) (fun x32 => []) (by kernel_rfl) (fun x32 hr => pe (eff_idxO (c := Frame.cod) (l := ((l24).set ((Int.tmod (iw .i64 (Int.tmod x27 256)) ((l24).length : Int)).toNat) x29)) (g := 0) (el := 32) (k := .i64) (n := Int.tmod (iw .i64 (iw .u16 (Int.tdiv x28 256))) ((l24).length : Int)) (by kernel_rfl) (by kernel_rfl) (by kernel_rfl) (by kernel_rfl) hr)) (fun x32 hx32 => ?_))))
   refine SimI.se ⟨none, .storeV [(5, 25)] 6 109 107, none, [(109, Hint.obj 100071), (107, .imm)]⟩ [] [(100071, some (.arr 32 Frame.cod.sz 0 (((((l24).set ((Int.tmod (iw .i64 (Int.tmod x27 256)) ((l24).length : Int)).toNat) x29)).set ((Int.tmod (iw .i64 (iw .u16 (Int.tdiv x28 256))) ((l24).length : Int)).toNat) x30)).length (getOf Frame.cod ((((l24).set ((Int.tmod (iw .i64 (Int.tmod x27 256)) ((l24).length : Int)).toNat) x29)).set ((Int.tmod (iw .i64 (iw .u16 (Int.tdiv x28 256))) ((l24).length : Int)).toNat) x30))))] (pOp_eff_ (by kernel_rfl) (by kernel_rfl) (eff_storeOV (c := Frame.cod) (key := 100071) (g := 0) (el := 32) (l := ((l24).set ((Int.tmod (iw .i64 (Int.tmod x27 256)) ((l24).length : Int)).toNat) x29)) (i := (Int.tmod (iw .i64 (iw .u16 (Int.tdiv x28 256))) ((l24).length : Int)).toNat) (b := x30) (by kernel_rfl) (by kernel_rfl) (by kernel_rfl) (ix_some hx32).2.2.1 (fun _ => rfl) rfl (by kernel_rfl))) (.slot 16 (.one (.osl 100071 0 0 (((((l24).set ((Int.tmod (iw .i64 (Int.tmod x27 256)) ((l24).length : Int)).toNat) x29)).set ((Int.tmod (iw .i64 (iw .u16 (Int.tdiv x28 256))) ((l24).length : Int)).toNat) x30)).length)) (Eq.trans (b := PV.one (.osl 100071 0 0 (((l24).set ((Int.tmod (iw .i64 (Int.tmod x27 256)) ((l24).length : Int)).toNat) x29)).length)) (by kernel_rfl) (congrArg (fun z => PV.one (Lf.osl 100071 0 0 z)) List.length_set.symm)) (.dn (.blockN (.thenN (.region0 (.rd 3 (rp [17, 77] (qj (iw .i64 (i25 + 1))) ++ [(76, qj i25)]) [] (.loopN (.pr [3, 9, 10, 11, 16, 17] [100011, 100071] [] [(3, .one (vw (codI .u16) a3)), (9, qj (iw .i64 (iw .i64 (Int.tmod a0 4) + 1))), (10, qj (iw .i64 (iw .i64 (Int.tmod a1 8) + 1))), (11, .one (.osl 100011 0 0 (l6).length)), (16, .one (.osl 100071 0 0 (((((l24).set ((Int.tmod (iw .i64 (Int.tmod x27 256)) ((l24).length : Int)).toNat) x29)).set ((Int.tmod (iw .i64 (iw .u16 (Int.tdiv x28 256))) ((l24).length : Int)).toNat) x30)).length)), (17, qj (iw .i64 (i25 + 1)))] [(100011, some (.arr 32 Frame.cod.sz 0 (l6).length (getOf Frame.cod l6))), (100071, some (.arr 32 Frame.cod.sz 0 (((((l24).set ((Int.tmod (iw .i64 (Int.tmod x27 256)) ((l24).length : Int)).toNat) x29)).set ((Int.tmod (iw .i64 (iw .u16 (Int.tdiv x28 256))) ((l24).length : Int)).toNat) x30)).length (getOf Frame.cod ((((l24).set ((Int.tmod (iw .i64 (Int.tmod x27 256)) ((l24).length : Int)).toNat) x29)).set ((Int.tmod (iw .i64 (iw .u16 (Int.tdiv x28 256))) ((l24).length : Int)).toNat) x30))))] ?_))))))))
   exact ih_l26 ((((l24).set ((Int.tmod (iw .i64 (Int.tmod x27 256)) ((l24).length : Int)).toNat) x29)).set ((Int.tmod (iw .i64 (iw .u16 (Int.tdiv x28 256))) ((l24).length : Int)).toNat) x30) (iw .i64 (i25 + 1))
  ·refine Sim.exit (.thenX (.loopX (.blockX (.thenN (.st 1 [(110, qj (iw .i64 (iw .i64 (Int.tmod a0 4) + 1)))] [] (.bn ⟨some 111, .gcall false false W3 [[], [], []] 13 [kk 0, kk 1, 110], none, []⟩ (fun r33 => [(111, qp 300000 0)]) (fun r33 => (W9 r33)) (fun r33 hr => pe (eff_gcall (ks := []) (rks := []) (new := [300000, 300001, 300002]) (ARGS := (W11 a0)) (args1 := (W11 a0)) (args2 := (W11 a0)) (os := []) (os' := [.cells (W36 r33), .arr 58 Event.cod.sz 0 (r33.log_).length (getOf Event.cod r33.log_), .map (mapOf Key.cells Event.cod r33.wait)]) (os1 := [.cells (W36 r33), .arr 58 Event.cod.sz 0 (r33.log_).length (getOf Event.cod r33.log_), .map (mapOf Key.cells Event.cod r33.wait)]) (res := qp 1000000 0) (res1 := qp 1000000 0) (r := qp 300000 0) (N := (W9 r33)) (by kernel_rfl) (readA_ow (readA_keep (by kernel_rfl) (readA_keep (by kernel_rfl) (readA_keep (by kernel_rfl) (readA_nil))))) (by kernel_rfl) (by kernel_rfl) (by kernel_rfl) (by kernel_rfl) (F13_ok _ _ _ _ _ hr) (by kernel_rfl) (by kernel_rfl) (by kernel_rfl) rfl (by kernel_rfl) (by kernel_rfl) (by kernel_rfl))) (fun r33 => ?_)))))))
   refine SimI.rn 1 [(112, qj (iw .i64 (iw .i64 (Int.tmod a0 4) + 1)))] [] (.bn ⟨some 113, .gcall false false W3 [[], [], []] 13 [kk 0, kk 1, 112], none, []⟩ (fun r34 => [(113, qp 300003 0)]) (fun r34 => (W10 r34)) (fun r34 hr => pe (eff_gcall (ks := []) (rks := []) (new := [300003, 300004, 300005]) (ARGS := (W11 a0)) (args1 := (W11 a0)) (args2 := (W11 a0)) (os := []) (os' := [.cells (W36 r34), .arr 58 Event.cod.sz 0 (r34.log_).length (getOf Event.cod r34.log_), .map (mapOf Key.cells Event.cod r34.wait)]) (os1 := [.cells (W36 r34), .arr 58 Event.cod.sz 0 (r34.log_).length (getOf Event.cod r34.log_), .map (mapOf Key.cells Event.cod r34.wait)]) (res := qp 1000000 0) (res1 := qp 1000000 0) (r := qp 300003 0) (N := (W10 r34)) (by kernel_rfl) (readA_ow (readA_keep (by kernel_rfl) (readA_keep (by kernel_rfl) (readA_keep (by kernel_rfl) (readA_nil))))) (by kernel_rfl) (by kernel_rfl) (by kernel_rfl) (by kernel_rfl) (F13_ok _ _ _ _ _ hr) (by kernel_rfl) (by kernel_rfl) (by kernel_rfl) rfl (by kernel_rfl) (by kernel_rfl) (by kernel_rfl))) (fun r34 => ?_))
   refine SimI.rd 2 [(21, qp 300003 0), (20, qp 300000 0)] [] (.thenN (.seq (.sr 1 [(22, qj 0)] [] (.block (.loop (.pr [10, 11, 16, 20, 21, 22] [100011, 100071, 300000, 300001, 300002, 300003, 300004, 300005] [] [(10, qj (iw .i64 (iw .i64 (Int.tmod a1 8) + 1))), (11, .one (.osl 100011 0 0 (l6).length)), (16, .one (.osl 100071 0 0 (l24).length)), (20, qp 300000 0), (21, qp 300003 0), (22, qj 0)] [(100011, some (.arr 32 Frame.cod.sz 0 (l6).length (getOf Frame.cod l6))), (100071, some (.arr 32 Frame.cod.sz 0 (l24).length (getOf Frame.cod l24))), (300000, some (.cells [lj r33.client, lj r33.session, lj r33.n, lj r33.beat, lj r33.start, vw Thing.cod r33.things, .osl 300001 0 0 (r33.log_).length, .mp 300002])), (300001, some (.arr 58 Event.cod.sz 0 (r33.log_).length (getOf Event.cod r33.log_))), (300002, some (.map (mapOf Key.cells Event.cod r33.wait))), (300003, some (.cells [lj r34.client, lj r34.session, lj r34.n, lj r34.beat, lj r34.start, vw Thing.cod r34.things, .osl 300004 0 0 (r34.log_).length, .mp 300005])), (300004, some (.arr 58 Event.cod.sz 0 (r34.log_).length (getOf Event.cod r34.log_))), (300005, some (.map (mapOf Key.cells Event.cod r34.wait)))] ?_))))))
   exact F4_l86_ok n a1 l6 l24 (n + 8) 0 r33.client r33.session r33.n r33.beat r33.start r33.things r33.log_ r33.wait r34.client r34.session r34.n r34.beat r34.start r34.things r34.log_ r34.wait
def F4_j19 (n : Nat) (i7 : Int) (l13 : (List Frame)) (i14 : Int) (rec_l15 : (List Frame) → Int → Option Bool) (l18 : (List Event)) : Option Bool :=
  if ((l13).length + 1) * 64 ≤ maxCells ∧ (l13).length + 1 ≤ maxCells then
   rec_l15 (l13 ++ [(Frame.mk i14 0 1 3 (IntKind.wrap .i64 (3 + i7)) l18)]) (IntKind.wrap .i64 (i14 + 1))
  else none
theorem F4_j19_ok (n : Nat) (a0 a1 : Int) (a2 a3 : (List Int)) (i7 : Int) (l13 : (List Frame)) (i14 : Int) (rec_l15 : (List Frame) → Int → Option Bool) (m_l15 m_l8 : Nat) (ih_l15 : ∀ (l13 : (List Frame)) (i14 : Int), SimL Try.prog D (n + 8) m_l15 p4c37 (W27 a2 a3 a0 a1 l13 i7 i14) (W6 l13) (rec_l15 l13 i14) (QB 2 (QB 1 (QT Try.prog D (n + 8) p4c42 (QL Try.prog D (n + 8) m_l8 p4c44 (QB 0 (QT Try.prog D (n + 8) p4c94 (QF false pc4_r 0 F4_e)))))))) (l18 : (List Event)) : Sim Try.prog D (n + 8) p4c31 [(2, .one (vw (codI .u8) a2)), (3, .one (vw (codI .u16) a3)), (9, qj (IntKind.wrap .i64 (IntKind.wrap .i64 (Int.tmod a0 4) + 1))), (10, qj (IntKind.wrap .i64 (IntKind.wrap .i64 (Int.tmod a1 8) + 1))), (11, .one (.osl 100011 0 0 (l13).length)), (12, qj i7), (13, qj i14), (14, qp 14 0)] [(14, some (.cells [lj i14, lj 0, lj 1, lj 3, lj (IntKind.wrap .i64 (3 + i7)), vw Event.cod l18])), (100011, some (.arr 32 Frame.cod.sz 0 (l13).length (getOf Frame.cod l13)))] (F4_j19 n i7 l13 i14 rec_l15 l18) (QB 3 (QT Try.prog D (n + 8) p4c35 (QL Try.prog D (n + 8) m_l15 p4c37 (QB 2 (QB 1 (QT Try.prog D (n + 8) p4c42 (QL Try.prog D (n + 8) m_l8 p4c44 (QB 0 (QT Try.prog D (n + 8) p4c94 (QF false pc4_r 0 F4_e)))))))))) := by
  unfold F4_j19
  refine Sim.rg (W7 a2 a3 a0 a1 l13 i7 i14) [(14, some (.cells (W29 i14 i7 l18))), (100011, some (.arr 32 Frame.cod.sz 0 (l13).length (getOf Frame.cod l13)))] (.rn 3 [(68, .one (vw Frame.cod [(Frame.mk i14 0 1 3 (iw .i64 (3 + i7)) l18)])), (67, .agg (W29 i14 i7 l18)), (66, .one (.osl 100011 0 0 (l13).length))] [] (.gu ⟨some 69, .app 100011 32 6 64 66 68, none, []⟩ [(69, .one (.osl 100011 (0 + 1) 0 ((l13 ++ [(Frame.mk i14 0 1 3 (iw .i64 (3 + i7)) l18)])).length))] [(100011, some (.arr 32 Frame.cod.sz (0 + 1) ((l13 ++ [(Frame.mk i14 0 1 3 (iw .i64 (3 + i7)) l18)])).length (getOf Frame.cod (l13 ++ [(Frame.mk i14 0 1 3 (iw .i64 (3 + i7)) l18)]))))] (fun hc => pe (eff_appO (c := Frame.cod) (g := 0) (l := l13) (a := (Frame.mk i14 0 1 3 (iw .i64 (3 + i7)) l18)) (by kernel_rfl) (by kernel_rfl) (by kernel_rfl) (by kernel_rfl) hc)) (.rd 1 [(11, .one (.osl 100011 (0 + 1) 0 ((l13 ++ [(Frame.mk i14 0 1 3 (iw .i64 (3 + i7)) l18)])).length))] [] (.blockN (.thenN (.region0 (.rd 3 (rp [13, 42] (qj (iw .i64 (i14 + 1))) ++ [(41, qj i14)]) [] (.loopN (.pr [2, 3, 9, 10, 11, 12, 13] [14, 100011] [(false, 11, 0, 100011, 32, 6)] [(2, .one (vw (codI .u8) a2)), (3, .one (vw (codI .u16) a3)), (9, qj (iw .i64 (iw .i64 (Int.tmod a0 4) + 1))), (10, qj (iw .i64 (iw .i64 (Int.tmod a1 8) + 1))), (11, .one (.osl 100011 0 0 ((l13 ++ [(Frame.mk i14 0 1 3 (iw .i64 (3 + i7)) l18)])).length)), (12, qj i7), (13, qj (iw .i64 (i14 + 1)))] [(100011, some (.arr 32 Frame.cod.sz 0 ((l13 ++ [(Frame.mk i14 0 1 3 (iw .i64 (3 + i7)) l18)])).length (getOf Frame.cod (l13 ++ [(Frame.mk i14 0 1 3 (iw .i64 (3 + i7)) l18)]))))] ?_)))))))))
  exact ih_l15 (l13 ++ [(Frame.mk i14 0 1 3 (iw .i64 (3 + i7)) l18)]) (iw .i64 (i14 + 1))
def F4_l15 (n : Nat) (a0 : Int) (a2 : (List Int)) (i7 : Int) (rec_l8 : (List Frame) → Int → Option Bool) : Nat → (List Frame) → Int → Option Bool
 | 0, _, _ => none
 | m + 1, l13, i14 =>
  if decide (i14 < IntKind.wrap .i64 (IntKind.wrap .i64 (Int.tmod a0 4) + 1)) then
   if decide (IntKind.wrap .i64 (IntKind.wrap .i64 (i7 * IntKind.wrap .i64 (IntKind.wrap .i64 (Int.tmod a0 4) + 1)) + i14) < ((a2).length : Int)) then
    (ix a2 (IntKind.wrap .i64 (IntKind.wrap .i64 (i7 * IntKind.wrap .i64 (IntKind.wrap .i64 (Int.tmod a0 4) + 1)) + i14))).bind fun (x16 : Int) =>
    (F24 n (IntKind.wrap .i64 (IntKind.wrap .i64 (4 * IntKind.wrap .i64 x16) + i14))).bind fun (l17 : (List Event)) =>
    F4_j19 n i7 l13 i14 (F4_l15 n a0 a2 i7 rec_l8 m) l17
   else
    F4_j19 n i7 l13 i14 (F4_l15 n a0 a2 i7 rec_l8 m) ([] : List Event)
  else
   rec_l8 l13 (IntKind.wrap .i64 (i7 + 1))
theorem F4_l15_ok (n : Nat) (a0 a1 : Int) (a2 a3 : (List Int)) (i7 : Int) (rec_l8 : (List Frame) → Int → Option Bool) (m_l8 : Nat) (ih_l8 : ∀ (l6 : (List Frame)) (i7 : Int), SimL Try.prog D (n + 8) m_l8 p4c44 (W25 a2 a3 a0 a1 l6 i7) (W6 l6) (rec_l8 l6 i7) (QB 0 (QT Try.prog D (n + 8) p4c94 (QF false pc4_r 0 F4_e)))) : ∀ (m : Nat) (l13 : (List Frame)) (i14 : Int), SimL Try.prog D (n + 8) m p4c37 (W27 a2 a3 a0 a1 l13 i7 i14) (W6 l13) (F4_l15 n a0 a2 i7 rec_l8 m l13 i14) (QB 2 (QB 1 (QT Try.prog D (n + 8) p4c42 (QL Try.prog D (n + 8) m_l8 p4c44 (QB 0 (QT Try.prog D (n + 8) p4c94 (QF false pc4_r 0 F4_e))))))) := by
 intro m_l15
 induction m_l15 with
 | zero => intro l13 i14; exact SimL.zero'  rfl
 | succ m_l15 ih_l15 =>
  intro l13 i14
  refine SimL.succ ?_
  unfold F4_l15
  refine Sim.seq (.seq (.rg [(2, .one (vw (codI .u8) a2)), (3, .one (vw (codI .u16) a3)), (9, qj (iw .i64 (iw .i64 (Int.tmod a0 4) + 1))), (10, qj (iw .i64 (iw .i64 (Int.tmod a1 8) + 1))), (11, .one (.osl 100011 0 0 (l13).length)), (12, qj i7), (13, qj i14)] (W6 l13) (.rd 3 [(40, qb (decide (i14 < IntKind.wrap .i64 (iw .i64 (Int.tmod a0 4) + 1)))), (39, qj (iw .i64 (iw .i64 (Int.tmod a0 4) + 1))), (38, qj i14)] [] (.thenN (.cd _ ?_ ?_)))))
  ·refine Sim.skip (.thenN (.seq (.block (.sr 6 [(14, qp 14 0), (46, .agg [lj i14, lj 0, lj 1, lj 3, lj (iw .i64 (3 + i7)), lnil]), (45, qj (iw .i64 (3 + i7))), (44, qj i7), (43, qj i14)] [(14, some (.cells [lj i14, lj 0, lj 1, lj 3, lj (iw .i64 (3 + i7)), vw Event.cod ([] : List Event)])), (14, some (.cells [lj 0, lj 0, lj 0, lj 0, lj 0, vw Event.cod ([] : List Event)]))] (.seq (.sr 6 (rp [15, 51] (qj (iw .i64 (iw .i64 (i7 * IntKind.wrap .i64 (iw .i64 (Int.tmod a0 4) + 1)) + i14))) ++ [(50, qj i14), (49, qj (iw .i64 (i7 * IntKind.wrap .i64 (iw .i64 (Int.tmod a0 4) + 1)))), (48, qj (iw .i64 (iw .i64 (Int.tmod a0 4) + 1))), (47, qj i7)]) [] (.sr 4 [(55, qb (decide (iw .i64 (iw .i64 (i7 * IntKind.wrap .i64 (iw .i64 (Int.tmod a0 4) + 1)) + i14) < ((a2).length : Int)))), (54, qj ((a2).length : Int)), (53, .one (vw (codI .u8) a2)), (52, qj (iw .i64 (iw .i64 (i7 * IntKind.wrap .i64 (iw .i64 (Int.tmod a0 4) + 1)) + i14)))] [] (.cd _ ?_ ?_))))))))
   ·refine Sim.region0 (.rn 2 [(57, qj (iw .i64 (iw .i64 (i7 * IntKind.wrap .i64 (iw .i64 (Int.tmod a0 4) + 1)) + i14))), (56, .one (vw (codI .u8) a2))] [] (.bn ⟨some 58, .iaddrS 1 56 57, none, []⟩ (fun x16 => [(58, .one (.eptr ((codI .u8).enc x16) 0))]) (fun x16 => []) (fun x16 hr => pe (ei (c := (codI .u8)) (k := .i64) hr)) (fun x16 => ?_)))
    refine SimI.rn 5 [(63, qj (iw .i64 (iw .i64 (4 * IntKind.wrap .i64 x16) + i14))), (62, qj i14), (61, qj (iw .i64 (4 * IntKind.wrap .i64 x16))), (60, qj (iw .i64 x16)), (59, .one (li .u8 x16))] [] (.bn ⟨some 64, .gcall false true [399990, 399991] [[]] 24 [63], none, []⟩ (fun l17 => [(64, .one (vw Event.cod l17))]) (fun l17 => []) (fun l17 hr => pe (eff_gcall (ks := []) (rks := []) (new := [399990]) (ARGS := [qj (iw .i64 (iw .i64 (4 * IntKind.wrap .i64 x16) + i14))]) (args1 := [qj (iw .i64 (iw .i64 (4 * IntKind.wrap .i64 x16) + i14))]) (args2 := [qj (iw .i64 (iw .i64 (4 * IntKind.wrap .i64 x16) + i14))]) (os := []) (os' := [.arr 58 Event.cod.sz 0 (l17).length (getOf Event.cod l17)]) (os1 := [.arr 58 Event.cod.sz 0 (l17).length (getOf Event.cod l17)]) (res := .one (.osl 1000000 0 0 (l17).length)) (res1 := .one (vw Event.cod l17)) (r := .one (vw Event.cod l17)) (N := []) (by kernel_rfl) (readA_ow (readA_keep (by kernel_rfl) (readA_nil))) (by kernel_rfl) (by kernel_rfl) (by kernel_rfl) (by kernel_rfl) (F24_ok _ _ _ hr) (by kernel_rfl) (by kernel_rfl) (by kernel_rfl) (frz_new (c := Event.cod) 58 l17) (by kernel_rfl) (by kernel_rfl) (by kernel_rfl))) (fun l17 => ?_))
    refine SimI.rd 2 [(65, qp 14 5)] [(14, some (.cells (W29 i14 i7 l17)))] (.thenN (.pr [2, 3, 9, 10, 11, 12, 13, 14] [14, 100011] [] (W7 a2 a3 a0 a1 l13 i7 i14) [(14, some (.cells (W29 i14 i7 l17))), (100011, some (.arr 32 Frame.cod.sz 0 (l13).length (getOf Frame.cod l13)))] ?_))
    exact F4_j19_ok n a0 a1 a2 a3 i7 l13 i14 (F4_l15 n a0 a2 i7 rec_l8 m_l15) m_l15 m_l8 ih_l15 l17
   ·refine Sim.skip (.thenN (.pr [2, 3, 9, 10, 11, 12, 13, 14] [14, 100011] [] (W7 a2 a3 a0 a1 l13 i7 i14) [(14, some (.cells [lj i14, lj 0, lj 1, lj 3, lj (iw .i64 (3 + i7)), vw Event.cod ([] : List Event)])), (100011, some (.arr 32 Frame.cod.sz 0 (l13).length (getOf Frame.cod l13)))] ?_))
    exact F4_j19_ok n a0 a1 a2 a3 i7 l13 i14 (F4_l15 n a0 a2 i7 rec_l8 m_l15) m_l15 m_l8 ih_l15 ([] : List Event)
  ·refine Sim.exit (.thenX (.loopX (.blockX (.blockN (.thenN (.region0 (.rd 3 (rp [12, 37] (qj (iw .i64 (i7 + 1))) ++ [(36, qj i7)]) [] (.loopN (.pr [2, 3, 9, 10, 11, 12] [100011] [(false, 11, 0, 100011, 32, 6)] [(2, .one (vw (codI .u8) a2)), (3, .one (vw (codI .u16) a3)), (9, qj (iw .i64 (iw .i64 (Int.tmod a0 4) + 1))), (10, qj (iw .i64 (iw .i64 (Int.tmod a1 8) + 1))), (11, .one (.osl 100011 0 0 (l13).length)), (12, qj (iw .i64 (i7 + 1)))] (W6 l13) ?_)))))))))
   exact ih_l8 l13 (iw .i64 (i7 + 1))
def F4_l8 (n : Nat) (a0 a1 : Int) (a2 a3 : (List Int)) : Nat → (List Frame) → Int → Option Bool
 | 0, _, _ => none
 | m + 1, l6, i7 =>
  if decide (i7 < IntKind.wrap .i64 (IntKind.wrap .i64 (Int.tmod a1 8) + 1)) then
   F4_l15 n a0 a2 i7 (F4_l8 n a0 a1 a2 a3 m) (n + 8) l6 0
  else
   if (l6).length * 64 ≤ maxCells ∧ (l6).length ≤ maxCells then
    F4_l26 n a0 a1 a3 l6 (n + 8) (l6) 0
   else none
theorem F4_l8_ok (n : Nat) (a0 a1 : Int) (a2 a3 : (List Int)) : ∀ (m : Nat) (l6 : (List Frame)) (i7 : Int), SimL Try.prog D (n + 8) m p4c44 (W25 a2 a3 a0 a1 l6 i7) (W6 l6) (F4_l8 n a0 a1 a2 a3 m l6 i7) (QB 0 (QT Try.prog D (n + 8) p4c94 (QF false pc4_r 0 F4_e))) := by
 intro m_l8
 induction m_l8 with
 | zero => intro l6 i7; exact SimL.zero'  rfl
 | succ m_l8 ih_l8 =>
  intro l6 i7
  refine SimL.succ ?_
  unfold F4_l8
  refine Sim.seq (.seq (.rg [(2, .one (vw (codI .u8) a2)), (3, .one (vw (codI .u16) a3)), (9, qj (iw .i64 (iw .i64 (Int.tmod a0 4) + 1))), (10, qj (iw .i64 (iw .i64 (Int.tmod a1 8) + 1))), (11, .one (.osl 100011 0 0 (l6).length)), (12, qj i7)] (W6 l6) (.rd 3 [(35, qb (decide (i7 < IntKind.wrap .i64 (iw .i64 (Int.tmod a1 8) + 1)))), (34, qj (iw .i64 (iw .i64 (Int.tmod a1 8) + 1))), (33, qj i7)] [] (.thenN (.cd _ ?_ ?_)))))
  ·refine Sim.skip (.thenN (.seq (.block (.sr 1 [(13, qj 0)] [] (.block (.loop (.pr [2, 3, 9, 10, 11, 12, 13] [14, 100011] [(false, 11, 0, 100011, 32, 6)] [(2, .one (vw (codI .u8) a2)), (3, .one (vw (codI .u16) a3)), (9, qj (iw .i64 (iw .i64 (Int.tmod a0 4) + 1))), (10, qj (iw .i64 (iw .i64 (Int.tmod a1 8) + 1))), (11, .one (.osl 100011 0 0 (l6).length)), (12, qj i7), (13, qj 0)] (W6 l6) ?_)))))))
   exact F4_l15_ok n a0 a1 a2 a3 i7 (F4_l8 n a0 a1 a2 a3 m_l8) m_l8 ih_l8 (n + 8) l6 0
  ·refine Sim.exit (.thenX (.loopX (.blockX (.thenN (.st 1 [(70, .one (.osl 100011 0 0 (l6).length))] [] (.gu ⟨some 71, .app 100071 32 6 64 (Operand.const (Value.slice none 0 0)) 70, none, []⟩ [(71, .one (.osl 100071 0 0 ((l6)).length))] [(100071, some (.arr 32 Frame.cod.sz 0 ((l6)).length (getOf Frame.cod (l6))))] (fun hc => pe (eff_appNO (c := Frame.cod) (l := l6) (k2 := 100011) (g2 := 0) (el2 := 32) (by kernel_rfl) (by kernel_rfl) (by kernel_rfl) (by kernel_rfl) (by kernel_rfl) (by kernel_rfl) hc)) (.rd 1 [(16, .one (.osl 100071 0 0 ((l6)).length))] [] (.thenN (.seq (.sr 1 [(17, qj 0)] [] (.block (.loop (.pr [3, 9, 10, 11, 16, 17] [100011, 100071] [] [(3, .one (vw (codI .u16) a3)), (9, qj (iw .i64 (iw .i64 (Int.tmod a0 4) + 1))), (10, qj (iw .i64 (iw .i64 (Int.tmod a1 8) + 1))), (11, .one (.osl 100011 0 0 (l6).length)), (16, .one (.osl 100071 0 0 ((l6)).length)), (17, qj 0)] [(100011, some (.arr 32 Frame.cod.sz 0 (l6).length (getOf Frame.cod l6))), (100071, some (.arr 32 Frame.cod.sz 0 ((l6)).length (getOf Frame.cod (l6))))] ?_)))))))))))))
   exact F4_l26_ok n a0 a1 a3 l6 (n + 8) (l6) 0
def F4 (n : Nat) (a0 a1 : Int) (a2 a3 : (List Int)) : Option Bool :=
 ((some true)).bind fun (r1 : Bool) =>
 if !(r1) then
  some false
 else
  F4_l8 n a0 a1 a2 a3 (n + 8) ([] : List Frame) 0
theorem F4_ok (n : Nat) (a0 a1 : Int) (a2 a3 : (List Int)) : ∀ r, F4 n a0 a1 a2 a3 = some r → D 4 [.one (li .u8 a0), .one (li .u8 a1), .one (vw (codI .u8) a2), .one (vw (codI .u16) a3)] [] = some (F4_e r) := by
 refine fn_to (D := D) (n := n + 8) (nt := 178) (rs := pc4_r) (c := p4c99) (L := [(0, .one (li .u8 a0)), (1, .one (li .u8 a1)), (2, .one (vw (codI .u8) a2)), (3, .one (vw (codI .u16) a3))]) (M := []) (k := 0) rfl rfl rfl rfl rfl rfl rfl ?_
 unfold F4
 refine Sim.sr 1 [(8, qb false)] [] (.seq (.seq (.region0 (.cl 23 true [] 11 [] none (fun r1 => qb r1) [] (F11_ok n) (fun r1 => ?_)))))
 refine SimI.rd 1 [(24, qb (!(r1)))] [] (.thenN (.cd _ ?_ ?_))
 ·exact Sim.sr 1 [(8, qb false)] [] (.ret (.thenR .fn))
 ·refine Sim.skip (.thenN (.sr 10 [(10, qj (iw .i64 (iw .i64 (Int.tmod a1 8) + 1))), (9, qj (iw .i64 (iw .i64 (Int.tmod a0 4) + 1))), (32, qj (iw .i64 (iw .i64 (Int.tmod a1 8) + 1))), (31, qj (iw .i64 (Int.tmod a1 8))), (30, .one (li .u8 (Int.tmod a1 8))), (29, .one (li .u8 a1)), (28, qj (iw .i64 (iw .i64 (Int.tmod a0 4) + 1))), (27, qj (iw .i64 (Int.tmod a0 4))), (26, .one (li .u8 (Int.tmod a0 4))), (25, .one (li .u8 a0))] [] (.sr 1 [(11, .one (lnil))] [] (.seq (.sr 1 [(12, qj 0)] [] (.block (.loop (.pr [2, 3, 9, 10, 11, 12] [100011] [(false, 11, 0, 100011, 32, 6)] [(2, .one (vw (codI .u8) a2)), (3, .one (vw (codI .u16) a3)), (9, qj (iw .i64 (iw .i64 (Int.tmod a0 4) + 1))), (10, qj (iw .i64 (iw .i64 (Int.tmod a1 8) + 1))), (11, .one (.osl 100011 0 0 (([] : List Frame)).length)), (12, qj 0)] [(100011, some (.arr 32 Frame.cod.sz 0 (([] : List Frame)).length (getOf Frame.cod ([] : List Frame))))] ?_))))))))
  exact F4_l8_ok n a0 a1 a2 a3 (n + 8) ([] : List Frame) 0
end Go.Proofs.Ythdabpmcojmhhaa
