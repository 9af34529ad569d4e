/- No condition. -/
import Derived.Test.YthdabpmcojmhhaaViewPlaysP0
namespace Go.Proofs.Ythdabpmcojmhhaa
open Go Go.Rx
set_option maxRecDepth 100000
set_option linter.unusedVariables false
set_option linter.unusedSimpArgs false
set_option linter.unnecessarySimpa false
set_option linter.unnecessarySimpa false
def F3_e : Bool → PV × List Ob := fun r => (.one (lb r), [])
def F3_l56 (n : Nat) (a1 : Int) (a3 : (List Frame)) : Nat → Int → Int → Int → Int → Int → Int → (List Thing) → (List Event) → (List (Key × (List Event))) → Int → Int → Int → Int → Int → (List Thing) → (List Event) → (List Frame) → Option Bool
 | 0, _, _, _, _, _, _, _, _, _, _, _, _, _, _, _, _, _ => none
 | m + 1, i39, i40, i41, i42, i43, i44, l45, l46, l47, i48, i49, i50, i51, i52, l53, l54, l55 =>
  if decide (i39 < ((a3).length : Int)) then
   (ix a3 i39).bind fun (x57 : Frame) =>
   (F15 n (View.mk i40 i41 i42 i43 i44 l45 l46 l47) x57).bind fun (r58 : (Bool × View)) =>
   (ix a3 i39).bind fun (x59 : Frame) =>
   (F16 n (View_vedetteref19.mk i48 i49 i50 i51 i52 l53 l54 l55) x59).bind fun (r60 : (Bool × View_vedetteref19)) =>
   if !(r58.1 == r60.1) then
    some false
   else
    (F17 n r58.2).bind fun (r61 : (Int × View)) =>
    if r61.1 != r60.2.Beat then
     some false
    else
     (F18 n r61.2).bind fun (r62 : (Int × View)) =>
     if r62.1 != ((r60.2.Wait).length : Int) then
      some false
     else
      (F20 n r62.2).bind fun (r63 : ((List Thing) × View)) =>
      (F19 n r63.1 r60.2.L).bind fun (r64 : Bool) =>
      if !(r64) then
       some false
      else
       (F22 n r63.2).bind fun (r65 : ((List Event) × View)) =>
       (F21 n r65.1 r60.2.Log).bind fun (r66 : Bool) =>
       if !(r66) then
        some false
       else
        (F3_l56 n a1 a3 m) (IntKind.wrap .i64 (i39 + 1)) r65.2.client r65.2.session r65.2.n r65.2.beat r65.2.start r65.2.things r65.2.log_ r65.2.wait r60.2.Client r60.2.Session r60.2.N r60.2.Start r60.2.Beat r60.2.L r60.2.Log r60.2.Wait
  else
   (F23 n (View.mk i40 i41 i42 i43 i44 l45 l46 l47)).bind fun (r67 : (Int × View)) =>
   some (r67.1 == a1)
theorem F3_l56_ok (n : Nat) (a1 : Int) (a3 : (List Frame)) : ∀ (m : Nat) (i39 i40 i41 i42 i43 i44 : Int) (l45 : (List Thing)) (l46 : (List Event)) (l47 : (List (Key × (List Event)))) (i48 i49 i50 i51 i52 : Int) (l53 : (List Thing)) (l54 : (List Event)) (l55 : (List Frame)), SimL Try.prog D (n + 8) m p3c33 [(1, qj a1), (3, .one (vw Frame.cod a3)), (9, qp 300000 0), (10, qp 300003 0), (11, qj i39)] (W47 i40 i41 i42 i43 i44 l45 l46 l47 i48 i49 i50 i51 i52 l53 l54 l55) (F3_l56 n a1 a3 m i39 i40 i41 i42 i43 i44 l45 l46 l47 i48 i49 i50 i51 i52 l53 l54 l55) (QB 0 (QT Try.prog D (n + 8) p3c39 (QF false pc3_r 0 F3_e))) := by
 intro m_l56
 induction m_l56 with
 | zero => intro i39 i40 i41 i42 i43 i44 l45 l46 l47 i48 i49 i50 i51 i52 l53 l54 l55; exact SimL.zero'  rfl
 | succ m_l56 ih_l56 =>
  intro i39 i40 i41 i42 i43 i44 l45 l46 l47 i48 i49 i50 i51 i52 l53 l54 l55
  refine SimL.succ ?_
  unfold F3_l56
  refine Sim.seq (.seq (.rg [(1, qj a1), (3, .one (vw Frame.cod a3)), (9, qp 300000 0), (10, qp 300003 0), (11, qj i39)] (W47 i40 i41 i42 i43 i44 l45 l46 l47 i48 i49 i50 i51 i52 l53 l54 l55) (.rd 4 [(28, qb (decide (i39 < ((a3).length : Int)))), (27, qj ((a3).length : Int)), (26, .one (vw Frame.cod a3)), (25, qj i39)] [] (.thenN (.cd _ ?_ ?_)))))
  ·refine Sim.skip (.thenN (.seq (.block (.st 3 [(33, qj i39), (32, .one (vw Frame.cod a3)), (31, qp 300000 0)] [] (.bn ⟨some 34, .iaddrS 6 32 33, none, [(32, .imm), (33, .imm)]⟩ (fun x57 => [(34, .one (.eptr (Frame.cod.enc x57) 0))]) (fun x57 => []) (fun x57 hr => pe (ei (c := Frame.cod) (k := .i64) hr)) (fun x57 => ?_))))))
   refine SimI.rn 1 [(35, .agg (w0 x57))] [] (.bn ⟨some 36, .gcall false false [300000, 300001, 300002] [[], [(5, 25)]] 15 [31, 35], none, [(31, .at_ 300000 0), (35, .imm)]⟩ (fun r58 => [(36, qb r58.1)]) (fun r58 => [(300000, some (.cells [lj r58.2.client, lj r58.2.session, lj r58.2.n, lj r58.2.beat, lj r58.2.start, vw Thing.cod r58.2.things, .osl 300001 (0 + 1) 0 (r58.2.log_).length, .mp 300002])), (300001, some (.arr 58 Event.cod.sz (0 + 1) (r58.2.log_).length (getOf Event.cod r58.2.log_))), (300002, some (.map (mapOf Key.cells Event.cod r58.2.wait)))]) (fun r58 hr => pe (gq (ks := [300000, 300001, 300002]) (ARGS := [qp 300000 0, .agg (w0 x57)]) (F15_ok _ _ _ _ hr))) (fun r58 => ?_))
   refine SimI.rn 3 [(39, qj i39), (38, .one (vw Frame.cod a3)), (37, qp 300003 0)] [] (.bn ⟨some 40, .iaddrS 6 38 39, none, [(38, .imm), (39, .imm)]⟩ (fun x59 => [(40, .one (.eptr (Frame.cod.enc x59) 0))]) (fun x59 => []) (fun x59 hr => pe (ei (c := Frame.cod) (k := .i64) hr)) (fun x59 => ?_))
   refine SimI.rn 1 [(41, .agg (w0 x59))] [] (.bn ⟨some 42, .gcall false false [300003, 300004, 300005] [[], [(5, 25)]] 16 [37, 41], none, [(37, .at_ 300003 0), (41, .imm)]⟩ (fun r60 => [(42, qb r60.1)]) (fun r60 => [(300003, some (.cells [lj r60.2.Client, lj r60.2.Session, lj r60.2.N, lj r60.2.Start, lj r60.2.Beat, vw Thing.cod r60.2.L, .osl 300004 (0 + 1) 0 (r60.2.Log).length, .osl 300005 (0 + 1) 0 (r60.2.Wait).length])), (300004, some (.arr 58 Event.cod.sz (0 + 1) (r60.2.Log).length (getOf Event.cod r60.2.Log))), (300005, some (.arr 32 Frame.cod.sz (0 + 1) (r60.2.Wait).length (getOf Frame.cod r60.2.Wait)))]) (fun r60 hr => pe (gq (ks := [300003, 300004, 300005]) (ARGS := [qp 300003 0, .agg (w0 x59)]) (F16_ok _ _ _ _ hr))) (fun r60 => ?_))
   refine SimI.rn 2 (rp [44, 43] (qb (!(r58.1 == r60.1)))) [] (.sp 44 _ ?_ ?_)
   ·exact SimI.rd 38 ([(82, qb true)] ++ rp W63 tz ++ W31 ++ rp [71, 70, 69, 68, 67, 66, 65, 64] tz ++ [(63, qb true), (62, qb true)] ++ rp [61, 60, 59, 58, 57, 56, 55, 54] tz ++ [(53, qb true), (52, qb true)] ++ rp [51, 50, 49, 48, 47, 46, 45] tz) [] (.thenN (.ct (.sr 1 [(8, qb false)] [] (.ret (.blockR (.thenR (.loopR (.blockR (.thenR .fn)))))))))
   ·refine SimI.rn 1 [(45, qp 300000 0)] [] (.bn ⟨some 46, .gcall false false [300000, 300001, 300002] [[]] 17 [45], some (44, false), [(45, .at_ 300000 0)]⟩ (fun r61 => [(46, qj r61.1)]) (fun r61 => [(300000, some (.cells [lj r61.2.client, lj r61.2.session, lj r61.2.n, lj r61.2.beat, lj r61.2.start, vw Thing.cod r61.2.things, .osl 300001 ((0 + 1) + 1) 0 (r61.2.log_).length, .mp 300002])), (300001, some (.arr 58 Event.cod.sz ((0 + 1) + 1) (r61.2.log_).length (getOf Event.cod r61.2.log_))), (300002, some (.map (mapOf Key.cells Event.cod r61.2.wait)))]) (fun r61 hr => pe (gq (ks := [300000, 300001, 300002]) (ARGS := [qp 300000 0]) (F17_ok _ _ _ hr))) (fun r61 => ?_))
    refine SimI.rn 7 (rp [53, 52, 51] (qb (r61.1 != r60.2.Beat)) ++ [(50, qj r60.2.Beat), (49, qp 300003 4), (48, qp 300003 0), (47, qp 300003 0)]) [] (.sp 53 _ ?_ ?_)
    ·exact SimI.rd 29 ([(82, qb true)] ++ rp W63 tz ++ W31 ++ rp [71, 70, 69, 68, 67, 66, 65, 64] tz ++ [(63, qb true), (62, qb true)] ++ rp [61, 60, 59, 58, 57, 56, 55, 54] tz) [] (.thenN (.ct (.sr 1 [(8, qb false)] [] (.ret (.blockR (.thenR (.loopR (.blockR (.thenR .fn)))))))))
    ·refine SimI.rn 1 [(54, qp 300000 0)] [] (.bn ⟨some 55, .gcall false false [300000, 300001, 300002] [[]] 18 [54], some (53, false), [(54, .at_ 300000 0)]⟩ (fun r62 => [(55, qj r62.1)]) (fun r62 => [(300000, some (.cells [lj r62.2.client, lj r62.2.session, lj r62.2.n, lj r62.2.beat, lj r62.2.start, vw Thing.cod r62.2.things, .osl 300001 (((0 + 1) + 1) + 1) 0 (r62.2.log_).length, .mp 300002])), (300001, some (.arr 58 Event.cod.sz (((0 + 1) + 1) + 1) (r62.2.log_).length (getOf Event.cod r62.2.log_))), (300002, some (.map (mapOf Key.cells Event.cod r62.2.wait)))]) (fun r62 hr => pe (gq (ks := [300000, 300001, 300002]) (ARGS := [qp 300000 0]) (F18_ok _ _ _ hr))) (fun r62 => ?_))
     refine SimI.rn 8 (rp [63, 62, 61] (qb (r62.1 != ((r60.2.Wait).length : Int))) ++ [(60, qj ((r60.2.Wait).length : Int)), (59, .one (.osl 300005 (0 + 1) 0 (r60.2.Wait).length)), (58, qp 300003 7), (57, qp 300003 0), (56, qp 300003 0)]) [] (.sp 63 _ ?_ ?_)
     ·exact SimI.rd 19 ([(82, qb true)] ++ rp W63 tz ++ W31 ++ rp [71, 70, 69, 68, 67, 66, 65, 64] tz) [] (.thenN (.ct (.sr 1 [(8, qb false)] [] (.ret (.blockR (.thenR (.loopR (.blockR (.thenR .fn)))))))))
     ·refine SimI.rn 1 [(64, qp 300000 0)] [] (.bn ⟨some 65, .gcall false false [300000, 300001, 300002] [[]] 20 [64], some (63, false), [(64, .at_ 300000 0)]⟩ (fun r63 => [(65, .one (vw Thing.cod r63.1))]) (fun r63 => [(300000, some (.cells [lj r63.2.client, lj r63.2.session, lj r63.2.n, lj r63.2.beat, lj r63.2.start, vw Thing.cod r63.2.things, .osl 300001 ((((0 + 1) + 1) + 1) + 1) 0 (r63.2.log_).length, .mp 300002])), (300001, some (.arr 58 Event.cod.sz ((((0 + 1) + 1) + 1) + 1) (r63.2.log_).length (getOf Event.cod r63.2.log_))), (300002, some (.map (mapOf Key.cells Event.cod r63.2.wait)))]) (fun r63 hr => pe (gq (ks := [300000, 300001, 300002]) (ARGS := [qp 300000 0]) (F20_ok _ _ _ hr))) (fun r63 => ?_))
      refine SimI.rn 4 [(69, .one (vw Thing.cod r60.2.L)), (68, qp 300003 5), (67, qp 300003 0), (66, qp 300003 0)] [] (.cm 70 false [[(0, 11)], [(0, 11)]] 19 [65, 69] (some (63, false)) [(65, .imm), (69, .imm)] (F19_ok _ _ _) (fun r64 => ?_))
      refine SimI.rn 3 (rp [73, 72, 71] (qb (!(r64)))) [] (.sp 73 _ ?_ ?_)
      ·exact SimI.rd 9 ([(82, qb true)] ++ rp W63 tz) [] (.thenN (.ct (.sr 1 [(8, qb false)] [] (.ret (.blockR (.thenR (.loopR (.blockR (.thenR .fn)))))))))
      ·refine SimI.rn 1 [(74, qp 300000 0)] [] (.bn ⟨some 75, .gcall false false [300000, 300001, 300002] [[]] 22 [74], some (73, false), [(74, .at_ 300000 0)]⟩ (fun r65 => [(75, .one (vw Event.cod r65.1))]) (fun r65 => [(300000, some (.cells [lj r65.2.client, lj r65.2.session, lj r65.2.n, lj r65.2.beat, lj r65.2.start, vw Thing.cod r65.2.things, .osl 300001 (((((0 + 1) + 1) + 1) + 1) + 1) 0 (r65.2.log_).length, .mp 300002])), (300001, some (.arr 58 Event.cod.sz (((((0 + 1) + 1) + 1) + 1) + 1) (r65.2.log_).length (getOf Event.cod r65.2.log_))), (300002, some (.map (mapOf Key.cells Event.cod r65.2.wait)))]) (fun r65 hr => pe (gq (ks := [300000, 300001, 300002]) (ARGS := [qp 300000 0]) (F22_ok _ _ _ hr))) (fun r65 => ?_))
       refine SimI.rn 4 [(79, .one (.osl 300004 (0 + 1) 0 (r60.2.Log).length)), (78, qp 300003 6), (77, qp 300003 0), (76, qp 300003 0)] [] (.bn ⟨some 80, .call false [[(0, 25)], [(0, 25)]] 21 [75, 79], some (73, false), [(75, .imm), (79, Hint.obj 300004)]⟩ (fun r66 => [(80, qb r66)]) (fun r66 => []) (fun r66 hr => pe (eff_call (ARGS := [.one (vw Event.cod r65.1), .one (.osl 300004 (0 + 1) 0 (r60.2.Log).length)]) (by kernel_rfl) (args_clean (by kernel_rfl) (args_own (c := Event.cod) (k := 300004) (g := (0 + 1)) (el := 58) (l := r60.2.Log) (by kernel_rfl) args_nil)) (F21_ok _ _ _ _ hr) (by kernel_rfl))) (fun r66 => ?_))
       refine SimI.rd 2 [(82, qb (!(r66))), (81, qb (!(r66)))] [] (.thenN (.cd _ ?_ ?_))
       ·exact Sim.sr 1 [(8, qb false)] [] (.ret (.blockR (.thenR (.loopR (.blockR (.thenR .fn))))))
       ·refine Sim.skip (.blockN (.thenN (.region0 (.rd 3 (rp [11, 30] (qj (iw .i64 (i39 + 1))) ++ [(29, qj i39)]) [] (.loopN (.pr [1, 3, 9, 10, 11] [300000, 300001, 300002, 300003, 300004, 300005] [] [(1, qj a1), (3, .one (vw Frame.cod a3)), (9, qp 300000 0), (10, qp 300003 0), (11, qj (iw .i64 (i39 + 1)))] [(300000, some (.cells [lj r65.2.client, lj r65.2.session, lj r65.2.n, lj r65.2.beat, lj r65.2.start, vw Thing.cod r65.2.things, .osl 300001 0 0 (r65.2.log_).length, .mp 300002])), (300001, some (.arr 58 Event.cod.sz 0 (r65.2.log_).length (getOf Event.cod r65.2.log_))), (300002, some (.map (mapOf Key.cells Event.cod r65.2.wait))), (300003, some (.cells [lj r60.2.Client, lj r60.2.Session, lj r60.2.N, lj r60.2.Start, lj r60.2.Beat, vw Thing.cod r60.2.L, .osl 300004 0 0 (r60.2.Log).length, .osl 300005 0 0 (r60.2.Wait).length])), (300004, some (.arr 58 Event.cod.sz 0 (r60.2.Log).length (getOf Event.cod r60.2.Log))), (300005, some (.arr 32 Frame.cod.sz 0 (r60.2.Wait).length (getOf Frame.cod r60.2.Wait)))] ?_))))))
        exact ih_l56 (iw .i64 (i39 + 1)) r65.2.client r65.2.session r65.2.n r65.2.beat r65.2.start r65.2.things r65.2.log_ r65.2.wait r60.2.Client r60.2.Session r60.2.N r60.2.Start r60.2.Beat r60.2.L r60.2.Log r60.2.Wait
  ·refine Sim.exit (.thenX (.loopX (.blockX (.thenN (.st 1 [(83, qp 300000 0)] [] (.bn ⟨some 84, .gcall false false [300000, 300001, 300002] [[]] 23 [83], none, []⟩ (fun r67 => [(84, qj r67.1)]) (fun r67 => [(300000, some (.cells [lj r67.2.client, lj r67.2.session, lj r67.2.n, lj r67.2.beat, lj r67.2.start, vw Thing.cod r67.2.things, .osl 300001 (0 + 1) 0 (r67.2.log_).length, .mp 300002])), (300001, some (.arr 58 Event.cod.sz (0 + 1) (r67.2.log_).length (getOf Event.cod r67.2.log_))), (300002, some (.map (mapOf Key.cells Event.cod r67.2.wait)))]) (fun r67 hr => pe (gq (ks := [300000, 300001, 300002]) (ARGS := [qp 300000 0]) (F23_ok _ _ _ hr))) (fun r67 => ?_)))))))
   exact SimI.rd 3 (rp [8, 86] (qb (r67.1 == a1)) ++ [(85, qj a1)]) [] (.thenN (.ret .fn))
def F3 (n : Nat) (a0 a1 a2 : Int) (a3 : (List Frame)) : Option Bool :=
 ((some true)).bind fun (r1 : Bool) =>
 if !(r1) then
  some false
 else
  (F12 n a3).bind fun (r2 : Bool) =>
  if !(r2) then
   some true
  else
   (F13 n a0 a1 a2).bind fun (r3 : View) =>
   (F14 n a0 a1 a2).bind fun (r4 : View_vedetteref19) =>
   F3_l56 n a1 a3 (n + 8) 0 r3.client r3.session r3.n r3.beat r3.start r3.things r3.log_ r3.wait r4.Client r4.Session r4.N r4.Start r4.Beat r4.L r4.Log r4.Wait
theorem F3_ok (n : Nat) (a0 a1 a2 : Int) (a3 : (List Frame)) : ∀ r, F3 n a0 a1 a2 a3 = some r → D 3 [.one (li .i64 a0), .one (li .i64 a1), .one (li .i64 a2), .one (vw Frame.cod a3)] [] = some (F3_e r) := by
 refine fn_to (D := D) (n := n + 8) (nt := 87) (rs := pc3_r) (c := p3c44) (L := [(0, qj a0), (1, qj a1), (2, qj a2), (3, .one (vw Frame.cod a3))]) (M := []) (k := 0) rfl rfl rfl rfl rfl rfl rfl ?_
 unfold F3
 refine Sim.sr 1 [(8, qb false)] [] (.seq (.seq (.region0 (.cl 12 true [] 11 [] none (fun r1 => qb r1) [] (F11_ok n) (fun r1 => ?_)))))
 refine SimI.rd 1 [(13, qb (!(r1)))] [] (.thenN (.cd _ ?_ ?_))
 ·exact Sim.sr 1 [(8, qb false)] [] (.ret (.thenR .fn))
 ·refine Sim.skip (.thenN (.seq (.st 1 [(14, .one (vw Frame.cod a3))] [] (.cl 15 true [[(0, 6)]] 12 [14] none (fun r2 => qb r2) [.one (vw Frame.cod a3)] (F12_ok _ _) (fun r2 => ?_)))))
  refine SimI.rd 1 [(16, qb (!(r2)))] [] (.thenN (.cd _ ?_ ?_))
  ·exact Sim.sr 1 [(8, qb true)] [] (.ret (.thenR .fn))
  ·refine Sim.skip (.thenN (.st 3 [(19, qj a2), (18, qj a1), (17, qj a0)] [] (.bn ⟨some 20, .gcall false false W8 [[], [], []] 13 [17, 18, 19], none, []⟩ (fun r3 => [(20, qp 300000 0)]) (fun r3 => (W23 r3)) (fun r3 hr => pe (eff_gcall (ks := []) (rks := []) (new := [300000, 300001, 300002]) (ARGS := [qj a0, qj a1, qj a2]) (args1 := [qj a0, qj a1, qj a2]) (args2 := [qj a0, qj a1, qj a2]) (os := []) (os' := [.cells (W56 r3), .arr 58 Event.cod.sz 0 (r3.log_).length (getOf Event.cod r3.log_), .map (mapOf Key.cells Event.cod r3.wait)]) (os1 := [.cells (W56 r3), .arr 58 Event.cod.sz 0 (r3.log_).length (getOf Event.cod r3.log_), .map (mapOf Key.cells Event.cod r3.wait)]) (res := qp 1000000 0) (res1 := qp 1000000 0) (r := qp 300000 0) (N := (W23 r3)) (by kernel_rfl) (readA_ow (readA_keep (by kernel_rfl) (readA_keep (by kernel_rfl) (readA_keep (by kernel_rfl) (readA_nil))))) (by kernel_rfl) (by kernel_rfl) (by kernel_rfl) (by kernel_rfl) (F13_ok _ _ _ _ _ hr) (by kernel_rfl) (by kernel_rfl) (by kernel_rfl) rfl (by kernel_rfl) (by kernel_rfl) (by kernel_rfl))) (fun r3 => ?_))))
   refine SimI.rn 3 [(23, qj a2), (22, qj a1), (21, qj a0)] [] (.bn ⟨some 24, .gcall false false W8 [[], [], []] 14 [21, 22, 23], none, []⟩ (fun r4 => [(24, qp 300003 0)]) (fun r4 => [(300003, some (.cells (w11 r4))), (300004, some (.arr 58 Event.cod.sz 0 (r4.Log).length (getOf Event.cod r4.Log))), (300005, some (.arr 32 Frame.cod.sz 0 (r4.Wait).length (getOf Frame.cod r4.Wait)))]) (fun r4 hr => pe (eff_gcall (ks := []) (rks := []) (new := [300003, 300004, 300005]) (ARGS := [qj a0, qj a1, qj a2]) (args1 := [qj a0, qj a1, qj a2]) (args2 := [qj a0, qj a1, qj a2]) (os := []) (os' := [.cells (w2 r4), .arr 58 Event.cod.sz 0 (r4.Log).length (getOf Event.cod r4.Log), .arr 32 Frame.cod.sz 0 (r4.Wait).length (getOf Frame.cod r4.Wait)]) (os1 := [.cells (w2 r4), .arr 58 Event.cod.sz 0 (r4.Log).length (getOf Event.cod r4.Log), .arr 32 Frame.cod.sz 0 (r4.Wait).length (getOf Frame.cod r4.Wait)]) (res := qp 1000000 0) (res1 := qp 1000000 0) (r := qp 300003 0) (N := [(300003, some (.cells (w11 r4))), (300004, some (.arr 58 Event.cod.sz 0 (r4.Log).length (getOf Event.cod r4.Log))), (300005, some (.arr 32 Frame.cod.sz 0 (r4.Wait).length (getOf Frame.cod r4.Wait)))]) (by kernel_rfl) (readA_ow (readA_keep (by kernel_rfl) (readA_keep (by kernel_rfl) (readA_keep (by kernel_rfl) (readA_nil))))) (by kernel_rfl) (by kernel_rfl) (by kernel_rfl) (by kernel_rfl) (F14_ok _ _ _ _ _ hr) (by kernel_rfl) (by kernel_rfl) (by kernel_rfl) rfl (by kernel_rfl) (by kernel_rfl) (by kernel_rfl))) (fun r4 => ?_))
   refine SimI.rd 2 [(10, qp 300003 0), (9, qp 300000 0)] [] (.thenN (.seq (.sr 1 [(11, qj 0)] [] (.block (.loop (.pr [1, 3, 9, 10, 11] [300000, 300001, 300002, 300003, 300004, 300005] [] [(1, qj a1), (3, .one (vw Frame.cod a3)), (9, qp 300000 0), (10, qp 300003 0), (11, qj 0)] [(300000, some (.cells [lj r3.client, lj r3.session, lj r3.n, lj r3.beat, lj r3.start, vw Thing.cod r3.things, .osl 300001 0 0 (r3.log_).length, .mp 300002])), (300001, some (.arr 58 Event.cod.sz 0 (r3.log_).length (getOf Event.cod r3.log_))), (300002, some (.map (mapOf Key.cells Event.cod r3.wait))), (300003, some (.cells (w11 r4))), (300004, some (.arr 58 Event.cod.sz 0 (r4.Log).length (getOf Event.cod r4.Log))), (300005, some (.arr 32 Frame.cod.sz 0 (r4.Wait).length (getOf Frame.cod r4.Wait)))] ?_))))))
   exact F3_l56_ok n a1 a3 (n + 8) 0 r3.client r3.session r3.n r3.beat r3.start r3.things r3.log_ r3.wait r4.Client r4.Session r4.N r4.Start r4.Beat r4.L r4.Log r4.Wait
end Go.Proofs.Ythdabpmcojmhhaa
