/- No condition. -/
import Derived.Test.YtpjejnefegdoeaaNoteBackP0
namespace Go.Proofs.Ytpjejnefegdoeaa
open Go Go.Rx
set_option maxRecDepth 100000
set_option linter.unusedVariables false
set_option linter.unusedSimpArgs false
set_option linter.unnecessarySimpa false
set_option linter.unnecessarySimpa false
def F95_e : (Delta × Int × Int) → PV × List Ob := fun r => (.tup [.agg (Delta.cells r.1), .one (li .i64 r.2.1), .one (li .i64 r.2.2)], [])
def F95_j39 (n : Nat) (r1 r2 r4 r5 : (Int × Reader_fields)) (g30 : Reader_fields) (i31 : Int) (s32 : ByteArray) (i33 : Int) (s34 : ByteArray) (i35 : Int) (s36 : ByteArray) (i37 : Int) (s38 : ByteArray) : Option (Delta × Int × Int) :=
  if g30.e != 0 then
   some ((Delta.mk 0 0 (Point.mk 0 0) (A4.mk (Field.mk 0 ByteArray.empty) (Field.mk 0 ByteArray.empty) (Field.mk 0 ByteArray.empty) (Field.mk 0 ByteArray.empty))), 0, g30.e)
  else
   (F88 n (Delta.mk r1.1 (IntKind.wrap .u8 r2.1) (Point.mk r4.1 r5.1) (A4.mk (Field.mk i31 s32) (Field.mk i33 s34) (Field.mk i35 s36) (Field.mk i37 s38)))).bind fun (r40 : Bool) =>
   if !(r40) then
    some ((Delta.mk 0 0 (Point.mk 0 0) (A4.mk (Field.mk 0 ByteArray.empty) (Field.mk 0 ByteArray.empty) (Field.mk 0 ByteArray.empty) (Field.mk 0 ByteArray.empty))), 0, 11)
   else
    some ((Delta.mk r1.1 (IntKind.wrap .u8 r2.1) (Point.mk r4.1 r5.1) (A4.mk (Field.mk i31 s32) (Field.mk i33 s34) (Field.mk i35 s36) (Field.mk i37 s38))), g30.at_, 0)
theorem F95_j39_ok (n : Nat) (r1 r2 r4 r5 : (Int × Reader_fields)) (g30 : Reader_fields) (i31 : Int) (s32 : ByteArray) (i33 : Int) (s34 : ByteArray) (i35 : Int) (s36 : ByteArray) (i37 : Int) (s38 : ByteArray) : Sim Try.prog D (n + 8) p95c65 W24 [(2, some (.cells W1)), (6, some (.cells [lj r1.1, li .u8 (IntKind.wrap .u8 r2.1), lj r4.1, lj r5.1, lj i31, ls s32, lj i33, ls s34, lj i35, ls s36, lj i37, ls s38])), (11, some (.cells (Reader_fields.cells g30)))] (F95_j39 n r1 r2 r4 r5 g30 i31 s32 i33 s34 i35 s36 i37 s38) (QF false pc95_r 0 F95_e) := by
  unfold F95_j39
  refine Sim.seq (.seq (.rg W24 [(2, some (.cells W1)), (6, some (.cells [lj r1.1, li .u8 (iw .u8 r2.1), lj r4.1, lj r5.1, lj i31, ls s32, lj i33, ls s34, lj i35, ls s36, lj i37, ls s38])), (11, some (.cells (Reader_fields.cells g30)))] (.rd 5 [(75, qb (g30.e != 0)), (74, qj g30.e), (73, qp 11 2), (72, qp 11 0), (71, qp 11 0)] [] (.thenN (.cd _ ?_ ?_)))))
  ·exact Sim.sr 8 [(4, qj g30.e), (3, qj 0), (80, qj g30.e), (79, qp 11 2), (78, qp 11 0), (77, qp 11 0), (76, .agg W1)] [(2, some (.cells W1))] (.ret (.thenR .fn))
  ·refine Sim.skip (.thenN (.seq (.st 1 [(81, .agg [lj r1.1, li .u8 (iw .u8 r2.1), lj r4.1, lj r5.1, lj i31, ls s32, lj i33, ls s34, lj i35, ls s36, lj i37, ls s38])] [] (.cl 82 true [[]] 88 [81] none (fun r40 => qb r40) [.agg [lj r1.1, li .u8 (iw .u8 r2.1), lj r4.1, lj r5.1, lj i31, ls s32, lj i33, ls s34, lj i35, ls s36, lj i37, ls s38]] (F88_ok _ _) (fun r40 => ?_)))))
   refine SimI.rd 1 [(83, qb (!(r40)))] [] (.thenN (.cd _ ?_ ?_))
   ·exact Sim.sr 4 [(4, qj 11), (3, qj 0), (84, .agg W1)] [(2, some (.cells W1))] (.ret (.thenR .fn))
   ·exact Sim.skip (.thenN (.sr 8 [(4, qj 0), (3, qj g30.at_), (89, qj g30.at_), (88, qp 11 1), (87, qp 11 0), (86, qp 11 0), (85, .agg [lj r1.1, li .u8 (iw .u8 r2.1), lj r4.1, lj r5.1, lj i31, ls s32, lj i33, ls s34, lj i35, ls s36, lj i37, ls s38])] [(2, some (.cells [lj r1.1, li .u8 (iw .u8 r2.1), lj r4.1, lj r5.1, lj i31, ls s32, lj i33, ls s34, lj i35, ls s36, lj i37, ls s38]))] (.ret .fn)))
def F95_u29 (n : Nat) (r1 r2 r4 r5 : (Int × Reader_fields)) (i9 : Int) (s10 : ByteArray) (i15 : Int) (s16 : ByteArray) (i21 : Int) (s22 : ByteArray) (g26 : Reader_fields) (i27 : Int) (s28 : ByteArray) : Option (Delta × Int × Int) :=
  F95_j39 n r1 r2 r4 r5 g26 i9 s10 i15 s16 i21 s22 i27 s28
theorem F95_u29_ok (n : Nat) (r1 r2 r4 r5 : (Int × Reader_fields)) (i9 : Int) (s10 : ByteArray) (i15 : Int) (s16 : ByteArray) (i21 : Int) (s22 : ByteArray) (g26 : Reader_fields) (i27 : Int) (s28 : ByteArray) : SimL Try.prog D (n + 8) (n + 4) p95c43 W38 [(2, some (.cells W1)), (6, some (.cells [lj r1.1, li .u8 (IntKind.wrap .u8 r2.1), lj r4.1, lj r5.1, lj i9, ls s10, lj i15, ls s16, lj i21, ls s22, lj i27, ls s28])), (11, some (.cells (Reader_fields.cells g26)))] (F95_u29 n r1 r2 r4 r5 i9 s10 i15 s16 i21 s22 g26 i27 s28) (QB 0 (QT Try.prog D (n + 8) p95c65 (QF false pc95_r 0 F95_e))) := by
  unfold F95_u29
  refine SimL.succ (.seq (.rg W38 [(2, some (.cells W1)), (6, some (.cells [lj r1.1, li .u8 (iw .u8 r2.1), lj r4.1, lj r5.1, lj i9, ls s10, lj i15, ls s16, lj i21, ls s22, lj i27, ls s28])), (11, some (.cells (Reader_fields.cells g26)))] (.rd 1 [(52, qb false)] [] (.thenN (.seq (.cf (.exit (.thenX (.loopX (.blockX (.thenN (.pr [2, 5, 6] [2, 6, 11] [] W24 [(2, some (.cells W1)), (6, some (.cells [lj r1.1, li .u8 (iw .u8 r2.1), lj r4.1, lj r5.1, lj i9, ls s10, lj i15, ls s16, lj i21, ls s22, lj i27, ls s28])), (11, some (.cells (Reader_fields.cells g26)))] ?_))))))))))))
  exact F95_j39_ok n r1 r2 r4 r5 g26 i9 s10 i15 s16 i21 s22 i27 s28
def F95_u23 (n : Nat) (r1 r2 r4 r5 : (Int × Reader_fields)) (i9 : Int) (s10 : ByteArray) (i15 : Int) (s16 : ByteArray) (g20 : Reader_fields) (i21 : Int) (s22 : ByteArray) : Option (Delta × Int × Int) :=
  if g20.e != 0 then
   F95_j39 n r1 r2 r4 r5 g20 i9 s10 i15 s16 i21 s22 0 ByteArray.empty
  else
   (F89 n (IntKind.wrap .u8 r2.1) 3).bind fun (r24 : Bool) =>
   if r24 then
    (F97 n g20).bind fun (r25 : (Field × Reader_fields)) =>
    F95_u29 n r1 r2 r4 r5 i9 s10 i15 s16 i21 s22 r25.2 r25.1.N r25.1.Text
   else
    F95_u29 n r1 r2 r4 r5 i9 s10 i15 s16 i21 s22 g20 0 ByteArray.empty
theorem F95_u23_ok (n : Nat) (r1 r2 r4 r5 : (Int × Reader_fields)) (i9 : Int) (s10 : ByteArray) (i15 : Int) (s16 : ByteArray) (g20 : Reader_fields) (i21 : Int) (s22 : ByteArray) : SimL Try.prog D (n + 8) (n + 5) p95c43 W39 [(2, some (.cells W1)), (6, some (.cells [lj r1.1, li .u8 (IntKind.wrap .u8 r2.1), lj r4.1, lj r5.1, lj i9, ls s10, lj i15, ls s16, lj i21, ls s22, lj 0, ls be])), (11, some (.cells (Reader_fields.cells g20)))] (F95_u23 n r1 r2 r4 r5 i9 s10 i15 s16 g20 i21 s22) (QB 0 (QT Try.prog D (n + 8) p95c65 (QF false pc95_r 0 F95_e))) := by
  unfold F95_u23
  refine SimL.succ (.seq (.rg W39 [(2, some (.cells W1)), (6, some (.cells [lj r1.1, li .u8 (iw .u8 r2.1), lj r4.1, lj r5.1, lj i9, ls s10, lj i15, ls s16, lj i21, ls s22, lj 0, ls be])), (11, some (.cells (Reader_fields.cells g20)))] (.rd 1 [(52, qb true)] [] (.thenN (.seq (.ct (.skip (.thenN (.seq (.block (.sr 2 [(8, qj 3), (53, qj 3)] [] (.block (.sr 6 (rp [54, 59] (qb (g20.e != 0)) ++ (W77 g20)) [] (.cd _ ?_ ?_))))))))))))))
  ·refine Sim.exit (.blockY rfl (.blockY rfl (.thenX (.loopX (.blockX (.thenN (.pr [2, 5, 6] [2, 6, 11] [] W24 [(2, some (.cells W1)), (6, some (.cells [lj r1.1, li .u8 (iw .u8 r2.1), lj r4.1, lj r5.1, lj i9, ls s10, lj i15, ls s16, lj i21, ls s22, lj 0, ls be])), (11, some (.cells (Reader_fields.cells g20)))] ?_)))))))
   exact F95_j39_ok n r1 r2 r4 r5 g20 i9 s10 i15 s16 i21 s22 0 be
  ·refine Sim.st 3 [(63, qj 3), (62, .one (li .u8 (iw .u8 r2.1))), (61, qp 6 1)] [] (.cl 64 true [[], []] 89 [62, 63] none (fun r24 => qb r24) [.one (li .u8 (iw .u8 r2.1)), qj 3] (F89_ok _ _ _) (fun r24 => ?_))
   refine SimI.rd 1 [(60, qb r24)] [] (.thenN (.cd _ ?_ ?_))
   ·refine Sim.region0 (.rn 2 [(66, qp 11 0), (65, qj 3)] [] (.bn ⟨some 67, .call true [[]] 97 [66], none, []⟩ (fun r25 => (W86 r25)) (fun r25 => (W59 r25)) (fun r25 hr => pe (qc (ARGS := [qp 11 0]) (ks := [11]) (os := [(Reader_fields.cells g20)]) (os' := [(Reader_fields.cells r25.2)]) (F97_ok _ _ _ hr))) (fun r25 => ?_)))
    refine SimI.rd 3 [(69, qp 6 10), (68, qp 6 4)] [(6, some (.cells [lj r1.1, li .u8 (iw .u8 r2.1), lj r4.1, lj r5.1, lj i9, ls s10, lj i15, ls s16, lj i21, ls s22, lj r25.1.N, ls r25.1.Text]))] (.blockN (.blockN (.thenN (.region0 (.rd 2 [(51, qj 4), (70, qj 4)] [] (.loopN (.pr [2, 5, 6, 51] [2, 6, 11] [] W38 [(2, some (.cells W1)), (6, some (.cells [lj r1.1, li .u8 (iw .u8 r2.1), lj r4.1, lj r5.1, lj i9, ls s10, lj i15, ls s16, lj i21, ls s22, lj r25.1.N, ls r25.1.Text])), (11, some (.cells (Reader_fields.cells r25.2)))] ?_)))))))
    exact F95_u29_ok n r1 r2 r4 r5 i9 s10 i15 s16 i21 s22 r25.2 r25.1.N r25.1.Text
   ·refine Sim.skip (.blockN (.blockN (.thenN (.region0 (.rd 2 [(51, qj 4), (70, qj 4)] [] (.loopN (.pr [2, 5, 6, 51] [2, 6, 11] [] W38 [(2, some (.cells W1)), (6, some (.cells [lj r1.1, li .u8 (iw .u8 r2.1), lj r4.1, lj r5.1, lj i9, ls s10, lj i15, ls s16, lj i21, ls s22, lj 0, ls be])), (11, some (.cells (Reader_fields.cells g20)))] ?_)))))))
    exact F95_u29_ok n r1 r2 r4 r5 i9 s10 i15 s16 i21 s22 g20 0 be
def F95_u17 (n : Nat) (r1 r2 r4 r5 : (Int × Reader_fields)) (i9 : Int) (s10 : ByteArray) (g14 : Reader_fields) (i15 : Int) (s16 : ByteArray) : Option (Delta × Int × Int) :=
  if g14.e != 0 then
   F95_j39 n r1 r2 r4 r5 g14 i9 s10 i15 s16 0 ByteArray.empty 0 ByteArray.empty
  else
   (F89 n (IntKind.wrap .u8 r2.1) 2).bind fun (r18 : Bool) =>
   if r18 then
    (F97 n g14).bind fun (r19 : (Field × Reader_fields)) =>
    F95_u23 n r1 r2 r4 r5 i9 s10 i15 s16 r19.2 r19.1.N r19.1.Text
   else
    F95_u23 n r1 r2 r4 r5 i9 s10 i15 s16 g14 0 ByteArray.empty
theorem F95_u17_ok (n : Nat) (r1 r2 r4 r5 : (Int × Reader_fields)) (i9 : Int) (s10 : ByteArray) (g14 : Reader_fields) (i15 : Int) (s16 : ByteArray) : SimL Try.prog D (n + 8) (n + 6) p95c43 W40 [(2, some (.cells W1)), (6, some (.cells [lj r1.1, li .u8 (IntKind.wrap .u8 r2.1), lj r4.1, lj r5.1, lj i9, ls s10, lj i15, ls s16, lj 0, ls be, lj 0, ls be])), (11, some (.cells (Reader_fields.cells g14)))] (F95_u17 n r1 r2 r4 r5 i9 s10 g14 i15 s16) (QB 0 (QT Try.prog D (n + 8) p95c65 (QF false pc95_r 0 F95_e))) := by
  unfold F95_u17
  refine SimL.succ (.seq (.rg W40 [(2, some (.cells W1)), (6, some (.cells [lj r1.1, li .u8 (iw .u8 r2.1), lj r4.1, lj r5.1, lj i9, ls s10, lj i15, ls s16, lj 0, ls be, lj 0, ls be])), (11, some (.cells (Reader_fields.cells g14)))] (.rd 1 [(52, qb true)] [] (.thenN (.seq (.ct (.skip (.thenN (.seq (.block (.sr 2 [(8, qj 2), (53, qj 2)] [] (.block (.sr 6 (rp [54, 59] (qb (g14.e != 0)) ++ (W77 g14)) [] (.cd _ ?_ ?_))))))))))))))
  ·refine Sim.exit (.blockY rfl (.blockY rfl (.thenX (.loopX (.blockX (.thenN (.pr [2, 5, 6] [2, 6, 11] [] W24 [(2, some (.cells W1)), (6, some (.cells [lj r1.1, li .u8 (iw .u8 r2.1), lj r4.1, lj r5.1, lj i9, ls s10, lj i15, ls s16, lj 0, ls be, lj 0, ls be])), (11, some (.cells (Reader_fields.cells g14)))] ?_)))))))
   exact F95_j39_ok n r1 r2 r4 r5 g14 i9 s10 i15 s16 0 be 0 be
  ·refine Sim.st 3 [(63, qj 2), (62, .one (li .u8 (iw .u8 r2.1))), (61, qp 6 1)] [] (.cl 64 true [[], []] 89 [62, 63] none (fun r18 => qb r18) [.one (li .u8 (iw .u8 r2.1)), qj 2] (F89_ok _ _ _) (fun r18 => ?_))
   refine SimI.rd 1 [(60, qb r18)] [] (.thenN (.cd _ ?_ ?_))
   ·refine Sim.region0 (.rn 2 [(66, qp 11 0), (65, qj 2)] [] (.bn ⟨some 67, .call true [[]] 97 [66], none, []⟩ (fun r19 => (W86 r19)) (fun r19 => (W59 r19)) (fun r19 hr => pe (qc (ARGS := [qp 11 0]) (ks := [11]) (os := [(Reader_fields.cells g14)]) (os' := [(Reader_fields.cells r19.2)]) (F97_ok _ _ _ hr))) (fun r19 => ?_)))
    refine SimI.rd 3 [(69, qp 6 8), (68, qp 6 4)] [(6, some (.cells [lj r1.1, li .u8 (iw .u8 r2.1), lj r4.1, lj r5.1, lj i9, ls s10, lj i15, ls s16, lj r19.1.N, ls r19.1.Text, lj 0, ls be]))] (.blockN (.blockN (.thenN (.region0 (.rd 2 [(51, qj 3), (70, qj 3)] [] (.loopN (.pr [2, 5, 6, 51] [2, 6, 11] [] W39 [(2, some (.cells W1)), (6, some (.cells [lj r1.1, li .u8 (iw .u8 r2.1), lj r4.1, lj r5.1, lj i9, ls s10, lj i15, ls s16, lj r19.1.N, ls r19.1.Text, lj 0, ls be])), (11, some (.cells (Reader_fields.cells r19.2)))] ?_)))))))
    exact F95_u23_ok n r1 r2 r4 r5 i9 s10 i15 s16 r19.2 r19.1.N r19.1.Text
   ·refine Sim.skip (.blockN (.blockN (.thenN (.region0 (.rd 2 [(51, qj 3), (70, qj 3)] [] (.loopN (.pr [2, 5, 6, 51] [2, 6, 11] [] W39 [(2, some (.cells W1)), (6, some (.cells [lj r1.1, li .u8 (iw .u8 r2.1), lj r4.1, lj r5.1, lj i9, ls s10, lj i15, ls s16, lj 0, ls be, lj 0, ls be])), (11, some (.cells (Reader_fields.cells g14)))] ?_)))))))
    exact F95_u23_ok n r1 r2 r4 r5 i9 s10 i15 s16 g14 0 be
def F95_u11 (n : Nat) (r1 r2 r4 r5 : (Int × Reader_fields)) (g8 : Reader_fields) (i9 : Int) (s10 : ByteArray) : Option (Delta × Int × Int) :=
  if g8.e != 0 then
   F95_j39 n r1 r2 r4 r5 g8 i9 s10 0 ByteArray.empty 0 ByteArray.empty 0 ByteArray.empty
  else
   (F89 n (IntKind.wrap .u8 r2.1) 1).bind fun (r12 : Bool) =>
   if r12 then
    (F97 n g8).bind fun (r13 : (Field × Reader_fields)) =>
    F95_u17 n r1 r2 r4 r5 i9 s10 r13.2 r13.1.N r13.1.Text
   else
    F95_u17 n r1 r2 r4 r5 i9 s10 g8 0 ByteArray.empty
theorem F95_u11_ok (n : Nat) (r1 r2 r4 r5 : (Int × Reader_fields)) (g8 : Reader_fields) (i9 : Int) (s10 : ByteArray) : SimL Try.prog D (n + 8) (n + 7) p95c43 W41 [(2, some (.cells W1)), (6, some (.cells [lj r1.1, li .u8 (IntKind.wrap .u8 r2.1), lj r4.1, lj r5.1, lj i9, ls s10, lj 0, ls be, lj 0, ls be, lj 0, ls be])), (11, some (.cells (Reader_fields.cells g8)))] (F95_u11 n r1 r2 r4 r5 g8 i9 s10) (QB 0 (QT Try.prog D (n + 8) p95c65 (QF false pc95_r 0 F95_e))) := by
  unfold F95_u11
  refine SimL.succ (.seq (.rg W41 (W117 r1 r2 r4 r5 i9 s10 g8) (.rd 1 [(52, qb true)] [] (.thenN (.seq (.ct (.skip (.thenN (.seq (.block (.sr 2 [(8, qj 1), (53, qj 1)] [] (.block (.sr 6 [(54, qb (g8.e != 0)), (59, qb (g8.e != 0)), (58, qj g8.e), (57, qp 11 2), (56, qp 11 0), (55, qp 11 0)] [] (.cd _ ?_ ?_))))))))))))))
  ·refine Sim.exit (.blockY rfl (.blockY rfl (.thenX (.loopX (.blockX (.thenN (.pr [2, 5, 6] [2, 6, 11] [] W24 (W117 r1 r2 r4 r5 i9 s10 g8) ?_)))))))
   exact F95_j39_ok n r1 r2 r4 r5 g8 i9 s10 0 be 0 be 0 be
  ·refine Sim.st 3 [(63, qj 1), (62, .one (li .u8 (iw .u8 r2.1))), (61, qp 6 1)] [] (.cl 64 true [[], []] 89 [62, 63] none (fun r12 => qb r12) [.one (li .u8 (iw .u8 r2.1)), qj 1] (F89_ok _ _ _) (fun r12 => ?_))
   refine SimI.rd 1 [(60, qb r12)] [] (.thenN (.cd _ ?_ ?_))
   ·refine Sim.region0 (.rn 2 [(66, qp 11 0), (65, qj 1)] [] (.bn ⟨some 67, .call true [[]] 97 [66], none, []⟩ (fun r13 => (W86 r13)) (fun r13 => (W59 r13)) (fun r13 hr => pe (qc (ARGS := [qp 11 0]) (ks := [11]) (os := [(Reader_fields.cells g8)]) (os' := [(Reader_fields.cells r13.2)]) (F97_ok _ _ _ hr))) (fun r13 => ?_)))
    refine SimI.rd 3 [(69, qp 6 6), (68, qp 6 4)] [(6, some (.cells [lj r1.1, li .u8 (iw .u8 r2.1), lj r4.1, lj r5.1, lj i9, ls s10, lj r13.1.N, ls r13.1.Text, lj 0, ls be, lj 0, ls be]))] (.blockN (.blockN (.thenN (.region0 (.rd 2 [(51, qj 2), (70, qj 2)] [] (.loopN (.pr [2, 5, 6, 51] [2, 6, 11] [] W40 [(2, some (.cells W1)), (6, some (.cells [lj r1.1, li .u8 (iw .u8 r2.1), lj r4.1, lj r5.1, lj i9, ls s10, lj r13.1.N, ls r13.1.Text, lj 0, ls be, lj 0, ls be])), (11, some (.cells (Reader_fields.cells r13.2)))] ?_)))))))
    exact F95_u17_ok n r1 r2 r4 r5 i9 s10 r13.2 r13.1.N r13.1.Text
   ·refine Sim.skip (.blockN (.blockN (.thenN (.region0 (.rd 2 [(51, qj 2), (70, qj 2)] [] (.loopN (.pr [2, 5, 6, 51] [2, 6, 11] [] W40 (W117 r1 r2 r4 r5 i9 s10 g8) ?_)))))))
    exact F95_u17_ok n r1 r2 r4 r5 i9 s10 g8 0 be
def F95_j74 (n : Nat) (r1 r2 : (Int × Reader_fields)) (g65 : Reader_fields) (i66 : Int) (s67 : ByteArray) (i68 : Int) (s69 : ByteArray) (i70 : Int) (s71 : ByteArray) (i72 : Int) (s73 : ByteArray) : Option (Delta × Int × Int) :=
  if g65.e != 0 then
   some ((Delta.mk 0 0 (Point.mk 0 0) (A4.mk (Field.mk 0 ByteArray.empty) (Field.mk 0 ByteArray.empty) (Field.mk 0 ByteArray.empty) (Field.mk 0 ByteArray.empty))), 0, g65.e)
  else
   (F88 n (Delta.mk r1.1 (IntKind.wrap .u8 r2.1) (Point.mk 0 0) (A4.mk (Field.mk i66 s67) (Field.mk i68 s69) (Field.mk i70 s71) (Field.mk i72 s73)))).bind fun (r75 : Bool) =>
   if !(r75) then
    some ((Delta.mk 0 0 (Point.mk 0 0) (A4.mk (Field.mk 0 ByteArray.empty) (Field.mk 0 ByteArray.empty) (Field.mk 0 ByteArray.empty) (Field.mk 0 ByteArray.empty))), 0, 11)
   else
    some ((Delta.mk r1.1 (IntKind.wrap .u8 r2.1) (Point.mk 0 0) (A4.mk (Field.mk i66 s67) (Field.mk i68 s69) (Field.mk i70 s71) (Field.mk i72 s73))), g65.at_, 0)
theorem F95_j74_ok (n : Nat) (r1 r2 : (Int × Reader_fields)) (g65 : Reader_fields) (i66 : Int) (s67 : ByteArray) (i68 : Int) (s69 : ByteArray) (i70 : Int) (s71 : ByteArray) (i72 : Int) (s73 : ByteArray) : Sim Try.prog D (n + 8) p95c65 W24 [(2, some (.cells W1)), (6, some (.cells [lj r1.1, li .u8 (IntKind.wrap .u8 r2.1), lj 0, lj 0, lj i66, ls s67, lj i68, ls s69, lj i70, ls s71, lj i72, ls s73])), (11, some (.cells (Reader_fields.cells g65)))] (F95_j74 n r1 r2 g65 i66 s67 i68 s69 i70 s71 i72 s73) (QF false pc95_r 0 F95_e) := by
  unfold F95_j74
  refine Sim.seq (.seq (.rg W24 [(2, some (.cells W1)), (6, some (.cells (W111 r1 r2 i66 s67 i68 s69 i70 s71 i72 s73))), (11, some (.cells (Reader_fields.cells g65)))] (.rd 5 [(75, qb (g65.e != 0)), (74, qj g65.e), (73, qp 11 2), (72, qp 11 0), (71, qp 11 0)] [] (.thenN (.cd _ ?_ ?_)))))
  ·exact Sim.sr 8 [(4, qj g65.e), (3, qj 0), (80, qj g65.e), (79, qp 11 2), (78, qp 11 0), (77, qp 11 0), (76, .agg W1)] [(2, some (.cells W1))] (.ret (.thenR .fn))
  ·refine Sim.skip (.thenN (.seq (.st 1 [(81, .agg (W111 r1 r2 i66 s67 i68 s69 i70 s71 i72 s73))] [] (.cl 82 true [[]] 88 [81] none (fun r75 => qb r75) [.agg (W111 r1 r2 i66 s67 i68 s69 i70 s71 i72 s73)] (F88_ok _ _) (fun r75 => ?_)))))
   refine SimI.rd 1 [(83, qb (!(r75)))] [] (.thenN (.cd _ ?_ ?_))
   ·exact Sim.sr 4 [(4, qj 11), (3, qj 0), (84, .agg W1)] [(2, some (.cells W1))] (.ret (.thenR .fn))
   ·exact Sim.skip (.thenN (.sr 8 [(4, qj 0), (3, qj g65.at_), (89, qj g65.at_), (88, qp 11 1), (87, qp 11 0), (86, qp 11 0), (85, .agg (W111 r1 r2 i66 s67 i68 s69 i70 s71 i72 s73))] [(2, some (.cells (W111 r1 r2 i66 s67 i68 s69 i70 s71 i72 s73)))] (.ret .fn)))
def F95_u64 (n : Nat) (r1 r2 : (Int × Reader_fields)) (i44 : Int) (s45 : ByteArray) (i50 : Int) (s51 : ByteArray) (i56 : Int) (s57 : ByteArray) (g61 : Reader_fields) (i62 : Int) (s63 : ByteArray) : Option (Delta × Int × Int) :=
  F95_j74 n r1 r2 g61 i44 s45 i50 s51 i56 s57 i62 s63
theorem F95_u64_ok (n : Nat) (r1 r2 : (Int × Reader_fields)) (i44 : Int) (s45 : ByteArray) (i50 : Int) (s51 : ByteArray) (i56 : Int) (s57 : ByteArray) (g61 : Reader_fields) (i62 : Int) (s63 : ByteArray) : SimL Try.prog D (n + 8) (n + 4) p95c43 W38 [(2, some (.cells W1)), (6, some (.cells [lj r1.1, li .u8 (IntKind.wrap .u8 r2.1), lj 0, lj 0, lj i44, ls s45, lj i50, ls s51, lj i56, ls s57, lj i62, ls s63])), (11, some (.cells (Reader_fields.cells g61)))] (F95_u64 n r1 r2 i44 s45 i50 s51 i56 s57 g61 i62 s63) (QB 0 (QT Try.prog D (n + 8) p95c65 (QF false pc95_r 0 F95_e))) := by
  unfold F95_u64
  refine SimL.succ (.seq (.rg W38 [(2, some (.cells W1)), (6, some (.cells (W111 r1 r2 i44 s45 i50 s51 i56 s57 i62 s63))), (11, some (.cells (Reader_fields.cells g61)))] (.rd 1 [(52, qb false)] [] (.thenN (.seq (.cf (.exit (.thenX (.loopX (.blockX (.thenN (.pr [2, 5, 6] [2, 6, 11] [] W24 [(2, some (.cells W1)), (6, some (.cells (W111 r1 r2 i44 s45 i50 s51 i56 s57 i62 s63))), (11, some (.cells (Reader_fields.cells g61)))] ?_))))))))))))
  exact F95_j74_ok n r1 r2 g61 i44 s45 i50 s51 i56 s57 i62 s63
def F95_u58 (n : Nat) (r1 r2 : (Int × Reader_fields)) (i44 : Int) (s45 : ByteArray) (i50 : Int) (s51 : ByteArray) (g55 : Reader_fields) (i56 : Int) (s57 : ByteArray) : Option (Delta × Int × Int) :=
  if g55.e != 0 then
   F95_j74 n r1 r2 g55 i44 s45 i50 s51 i56 s57 0 ByteArray.empty
  else
   (F89 n (IntKind.wrap .u8 r2.1) 3).bind fun (r59 : Bool) =>
   if r59 then
    (F97 n g55).bind fun (r60 : (Field × Reader_fields)) =>
    F95_u64 n r1 r2 i44 s45 i50 s51 i56 s57 r60.2 r60.1.N r60.1.Text
   else
    F95_u64 n r1 r2 i44 s45 i50 s51 i56 s57 g55 0 ByteArray.empty
theorem F95_u58_ok (n : Nat) (r1 r2 : (Int × Reader_fields)) (i44 : Int) (s45 : ByteArray) (i50 : Int) (s51 : ByteArray) (g55 : Reader_fields) (i56 : Int) (s57 : ByteArray) : SimL Try.prog D (n + 8) (n + 5) p95c43 W39 [(2, some (.cells W1)), (6, some (.cells [lj r1.1, li .u8 (IntKind.wrap .u8 r2.1), lj 0, lj 0, lj i44, ls s45, lj i50, ls s51, lj i56, ls s57, lj 0, ls be])), (11, some (.cells (Reader_fields.cells g55)))] (F95_u58 n r1 r2 i44 s45 i50 s51 g55 i56 s57) (QB 0 (QT Try.prog D (n + 8) p95c65 (QF false pc95_r 0 F95_e))) := by
  unfold F95_u58
  refine SimL.succ (.seq (.rg W39 (W139 r1 r2 i44 s45 i50 s51 i56 s57 g55) (.rd 1 [(52, qb true)] [] (.thenN (.seq (.ct (.skip (.thenN (.seq (.block (.sr 2 [(8, qj 3), (53, qj 3)] [] (.block (.sr 6 (rp [54, 59] (qb (g55.e != 0)) ++ (W77 g55)) [] (.cd _ ?_ ?_))))))))))))))
  ·refine Sim.exit (.blockY rfl (.blockY rfl (.thenX (.loopX (.blockX (.thenN (.pr [2, 5, 6] [2, 6, 11] [] W24 (W139 r1 r2 i44 s45 i50 s51 i56 s57 g55) ?_)))))))
   exact F95_j74_ok n r1 r2 g55 i44 s45 i50 s51 i56 s57 0 be
  ·refine Sim.st 3 [(63, qj 3), (62, .one (li .u8 (iw .u8 r2.1))), (61, qp 6 1)] [] (.cl 64 true [[], []] 89 [62, 63] none (fun r59 => qb r59) [.one (li .u8 (iw .u8 r2.1)), qj 3] (F89_ok _ _ _) (fun r59 => ?_))
   refine SimI.rd 1 [(60, qb r59)] [] (.thenN (.cd _ ?_ ?_))
   ·refine Sim.region0 (.rn 2 [(66, qp 11 0), (65, qj 3)] [] (.bn ⟨some 67, .call true [[]] 97 [66], none, []⟩ (fun r60 => (W86 r60)) (fun r60 => (W59 r60)) (fun r60 hr => pe (qc (ARGS := [qp 11 0]) (ks := [11]) (os := [(Reader_fields.cells g55)]) (os' := [(Reader_fields.cells r60.2)]) (F97_ok _ _ _ hr))) (fun r60 => ?_)))
    refine SimI.rd 3 [(69, qp 6 10), (68, qp 6 4)] [(6, some (.cells [lj r1.1, li .u8 (iw .u8 r2.1), lj 0, lj 0, lj i44, ls s45, lj i50, ls s51, lj i56, ls s57, lj r60.1.N, ls r60.1.Text]))] (.blockN (.blockN (.thenN (.region0 (.rd 2 [(51, qj 4), (70, qj 4)] [] (.loopN (.pr [2, 5, 6, 51] [2, 6, 11] [] W38 [(2, some (.cells W1)), (6, some (.cells [lj r1.1, li .u8 (iw .u8 r2.1), lj 0, lj 0, lj i44, ls s45, lj i50, ls s51, lj i56, ls s57, lj r60.1.N, ls r60.1.Text])), (11, some (.cells (Reader_fields.cells r60.2)))] ?_)))))))
    exact F95_u64_ok n r1 r2 i44 s45 i50 s51 i56 s57 r60.2 r60.1.N r60.1.Text
   ·refine Sim.skip (.blockN (.blockN (.thenN (.region0 (.rd 2 [(51, qj 4), (70, qj 4)] [] (.loopN (.pr [2, 5, 6, 51] [2, 6, 11] [] W38 (W139 r1 r2 i44 s45 i50 s51 i56 s57 g55) ?_)))))))
    exact F95_u64_ok n r1 r2 i44 s45 i50 s51 i56 s57 g55 0 be
def F95_u52 (n : Nat) (r1 r2 : (Int × Reader_fields)) (i44 : Int) (s45 : ByteArray) (g49 : Reader_fields) (i50 : Int) (s51 : ByteArray) : Option (Delta × Int × Int) :=
  if g49.e != 0 then
   F95_j74 n r1 r2 g49 i44 s45 i50 s51 0 ByteArray.empty 0 ByteArray.empty
  else
   (F89 n (IntKind.wrap .u8 r2.1) 2).bind fun (r53 : Bool) =>
   if r53 then
    (F97 n g49).bind fun (r54 : (Field × Reader_fields)) =>
    F95_u58 n r1 r2 i44 s45 i50 s51 r54.2 r54.1.N r54.1.Text
   else
    F95_u58 n r1 r2 i44 s45 i50 s51 g49 0 ByteArray.empty
theorem F95_u52_ok (n : Nat) (r1 r2 : (Int × Reader_fields)) (i44 : Int) (s45 : ByteArray) (g49 : Reader_fields) (i50 : Int) (s51 : ByteArray) : SimL Try.prog D (n + 8) (n + 6) p95c43 W40 [(2, some (.cells W1)), (6, some (.cells [lj r1.1, li .u8 (IntKind.wrap .u8 r2.1), lj 0, lj 0, lj i44, ls s45, lj i50, ls s51, lj 0, ls be, lj 0, ls be])), (11, some (.cells (Reader_fields.cells g49)))] (F95_u52 n r1 r2 i44 s45 g49 i50 s51) (QB 0 (QT Try.prog D (n + 8) p95c65 (QF false pc95_r 0 F95_e))) := by
  unfold F95_u52
  refine SimL.succ (.seq (.rg W40 (W98 r1 r2 i44 s45 i50 s51 g49) (.rd 1 [(52, qb true)] [] (.thenN (.seq (.ct (.skip (.thenN (.seq (.block (.sr 2 [(8, qj 2), (53, qj 2)] [] (.block (.sr 6 (rp [54, 59] (qb (g49.e != 0)) ++ (W77 g49)) [] (.cd _ ?_ ?_))))))))))))))
  ·refine Sim.exit (.blockY rfl (.blockY rfl (.thenX (.loopX (.blockX (.thenN (.pr [2, 5, 6] [2, 6, 11] [] W24 (W98 r1 r2 i44 s45 i50 s51 g49) ?_)))))))
   exact F95_j74_ok n r1 r2 g49 i44 s45 i50 s51 0 be 0 be
  ·refine Sim.st 3 [(63, qj 2), (62, .one (li .u8 (iw .u8 r2.1))), (61, qp 6 1)] [] (.cl 64 true [[], []] 89 [62, 63] none (fun r53 => qb r53) [.one (li .u8 (iw .u8 r2.1)), qj 2] (F89_ok _ _ _) (fun r53 => ?_))
   refine SimI.rd 1 [(60, qb r53)] [] (.thenN (.cd _ ?_ ?_))
   ·refine Sim.region0 (.rn 2 [(66, qp 11 0), (65, qj 2)] [] (.bn ⟨some 67, .call true [[]] 97 [66], none, []⟩ (fun r54 => (W86 r54)) (fun r54 => (W59 r54)) (fun r54 hr => pe (qc (ARGS := [qp 11 0]) (ks := [11]) (os := [(Reader_fields.cells g49)]) (os' := [(Reader_fields.cells r54.2)]) (F97_ok _ _ _ hr))) (fun r54 => ?_)))
    refine SimI.rd 3 [(69, qp 6 8), (68, qp 6 4)] [(6, some (.cells [lj r1.1, li .u8 (iw .u8 r2.1), lj 0, lj 0, lj i44, ls s45, lj i50, ls s51, lj r54.1.N, ls r54.1.Text, lj 0, ls be]))] (.blockN (.blockN (.thenN (.region0 (.rd 2 [(51, qj 3), (70, qj 3)] [] (.loopN (.pr [2, 5, 6, 51] [2, 6, 11] [] W39 [(2, some (.cells W1)), (6, some (.cells [lj r1.1, li .u8 (iw .u8 r2.1), lj 0, lj 0, lj i44, ls s45, lj i50, ls s51, lj r54.1.N, ls r54.1.Text, lj 0, ls be])), (11, some (.cells (Reader_fields.cells r54.2)))] ?_)))))))
    exact F95_u58_ok n r1 r2 i44 s45 i50 s51 r54.2 r54.1.N r54.1.Text
   ·refine Sim.skip (.blockN (.blockN (.thenN (.region0 (.rd 2 [(51, qj 3), (70, qj 3)] [] (.loopN (.pr [2, 5, 6, 51] [2, 6, 11] [] W39 (W98 r1 r2 i44 s45 i50 s51 g49) ?_)))))))
    exact F95_u58_ok n r1 r2 i44 s45 i50 s51 g49 0 be
def F95_u46 (n : Nat) (r1 r2 : (Int × Reader_fields)) (g43 : Reader_fields) (i44 : Int) (s45 : ByteArray) : Option (Delta × Int × Int) :=
  if g43.e != 0 then
   F95_j74 n r1 r2 g43 i44 s45 0 ByteArray.empty 0 ByteArray.empty 0 ByteArray.empty
  else
   (F89 n (IntKind.wrap .u8 r2.1) 1).bind fun (r47 : Bool) =>
   if r47 then
    (F97 n g43).bind fun (r48 : (Field × Reader_fields)) =>
    F95_u52 n r1 r2 i44 s45 r48.2 r48.1.N r48.1.Text
   else
    F95_u52 n r1 r2 i44 s45 g43 0 ByteArray.empty
theorem F95_u46_ok (n : Nat) (r1 r2 : (Int × Reader_fields)) (g43 : Reader_fields) (i44 : Int) (s45 : ByteArray) : SimL Try.prog D (n + 8) (n + 7) p95c43 W41 [(2, some (.cells W1)), (6, some (.cells [lj r1.1, li .u8 (IntKind.wrap .u8 r2.1), lj 0, lj 0, lj i44, ls s45, lj 0, ls be, lj 0, ls be, lj 0, ls be])), (11, some (.cells (Reader_fields.cells g43)))] (F95_u46 n r1 r2 g43 i44 s45) (QB 0 (QT Try.prog D (n + 8) p95c65 (QF false pc95_r 0 F95_e))) := by
  unfold F95_u46
  refine SimL.succ (.seq (.rg W41 (W71 r1 r2 i44 s45 g43) (.rd 1 [(52, qb true)] [] (.thenN (.seq (.ct (.skip (.thenN (.seq (.block (.sr 2 [(8, qj 1), (53, qj 1)] [] (.block (.sr 6 (rp [54, 59] (qb (g43.e != 0)) ++ (W77 g43)) [] (.cd _ ?_ ?_))))))))))))))
  ·refine Sim.exit (.blockY rfl (.blockY rfl (.thenX (.loopX (.blockX (.thenN (.pr [2, 5, 6] [2, 6, 11] [] W24 (W71 r1 r2 i44 s45 g43) ?_)))))))
   exact F95_j74_ok n r1 r2 g43 i44 s45 0 be 0 be 0 be
  ·refine Sim.st 3 [(63, qj 1), (62, .one (li .u8 (iw .u8 r2.1))), (61, qp 6 1)] [] (.cl 64 true [[], []] 89 [62, 63] none (fun r47 => qb r47) [.one (li .u8 (iw .u8 r2.1)), qj 1] (F89_ok _ _ _) (fun r47 => ?_))
   refine SimI.rd 1 [(60, qb r47)] [] (.thenN (.cd _ ?_ ?_))
   ·refine Sim.region0 (.rn 2 [(66, qp 11 0), (65, qj 1)] [] (.bn ⟨some 67, .call true [[]] 97 [66], none, []⟩ (fun r48 => (W86 r48)) (fun r48 => (W59 r48)) (fun r48 hr => pe (qc (ARGS := [qp 11 0]) (ks := [11]) (os := [(Reader_fields.cells g43)]) (os' := [(Reader_fields.cells r48.2)]) (F97_ok _ _ _ hr))) (fun r48 => ?_)))
    refine SimI.rd 3 [(69, qp 6 6), (68, qp 6 4)] [(6, some (.cells [lj r1.1, li .u8 (iw .u8 r2.1), lj 0, lj 0, lj i44, ls s45, lj r48.1.N, ls r48.1.Text, lj 0, ls be, lj 0, ls be]))] (.blockN (.blockN (.thenN (.region0 (.rd 2 [(51, qj 2), (70, qj 2)] [] (.loopN (.pr [2, 5, 6, 51] [2, 6, 11] [] W40 [(2, some (.cells W1)), (6, some (.cells [lj r1.1, li .u8 (iw .u8 r2.1), lj 0, lj 0, lj i44, ls s45, lj r48.1.N, ls r48.1.Text, lj 0, ls be, lj 0, ls be])), (11, some (.cells (Reader_fields.cells r48.2)))] ?_)))))))
    exact F95_u52_ok n r1 r2 i44 s45 r48.2 r48.1.N r48.1.Text
   ·refine Sim.skip (.blockN (.blockN (.thenN (.region0 (.rd 2 [(51, qj 2), (70, qj 2)] [] (.loopN (.pr [2, 5, 6, 51] [2, 6, 11] [] W40 (W71 r1 r2 i44 s45 g43) ?_)))))))
    exact F95_u52_ok n r1 r2 i44 s45 g43 0 be
def F95_j3 (n : Nat) (r1 r2 : (Int × Reader_fields)) : Option (Delta × Int × Int) :=
  if (bitsI .and .u8 (IntKind.wrap .u8 r2.1) 1) != 0 then
   (F96 n r2.2).bind fun (r4 : (Int × Reader_fields)) =>
   (F96 n r4.2).bind fun (r5 : (Int × Reader_fields)) =>
   if r5.2.e != 0 then
    F95_j39 n r1 r2 r4 r5 r5.2 0 ByteArray.empty 0 ByteArray.empty 0 ByteArray.empty 0 ByteArray.empty
   else
    (F89 n (IntKind.wrap .u8 r2.1) 0).bind fun (r6 : Bool) =>
    if r6 then
     (F97 n r5.2).bind fun (r7 : (Field × Reader_fields)) =>
     F95_u11 n r1 r2 r4 r5 r7.2 r7.1.N r7.1.Text
    else
     F95_u11 n r1 r2 r4 r5 r5.2 0 ByteArray.empty
  else
   if r2.2.e != 0 then
    F95_j74 n r1 r2 r2.2 0 ByteArray.empty 0 ByteArray.empty 0 ByteArray.empty 0 ByteArray.empty
   else
    (F89 n (IntKind.wrap .u8 r2.1) 0).bind fun (r41 : Bool) =>
    if r41 then
     (F97 n r2.2).bind fun (r42 : (Field × Reader_fields)) =>
     F95_u46 n r1 r2 r42.2 r42.1.N r42.1.Text
    else
     F95_u46 n r1 r2 r2.2 0 ByteArray.empty
theorem F95_j3_ok (n : Nat) (r1 r2 : (Int × Reader_fields)) : Sim Try.prog D (n + 8) p95c68 [(2, qp 2 0), (5, qp 11 0), (6, qp 6 0), (7, qj r2.1)] (W123 r1 r2) (F95_j3 n r1 r2) (QF false pc95_r 0 F95_e) := by
  unfold F95_j3
  refine Sim.seq (.seq (.rs (.rd 4 [(38, qp 6 1), (37, .one (li .u8 (iw .u8 r2.1))), (36, qj r2.1)] [(6, some (.cells [lj r1.1, li .u8 (iw .u8 r2.1), lj 0, lj 0, lj 0, ls be, lj 0, ls be, lj 0, ls be, lj 0, ls be]))] (.thenN (.sr 4 [(42, qb ((bitsI .and .u8 (iw .u8 r2.1) 1) != 0)), (41, .one (li .u8 (bitsI .and .u8 (iw .u8 r2.1) 1))), (40, .one (li .u8 (iw .u8 r2.1))), (39, qp 6 1)] [] (.cd _ ?_ ?_))))))
  ·refine Sim.st 1 [(43, qp 11 0)] [] (.bn ⟨some 44, .call true [[]] 96 [43], none, []⟩ (fun r4 => [(44, qj r4.1)]) (fun r4 => (W156 r4)) (fun r4 hr => pe (qc (ARGS := [qp 11 0]) (ks := [11]) (os := [(Reader_fields.cells r2.2)]) (os' := [(Reader_fields.cells r4.2)]) (F96_ok _ _ _ hr))) (fun r4 => ?_))
   refine SimI.rd 3 [(46, qp 6 2), (45, qp 6 2)] [(6, some (.cells [lj r1.1, li .u8 (iw .u8 r2.1), lj r4.1, lj 0, lj 0, ls be, lj 0, ls be, lj 0, ls be, lj 0, ls be]))] (.thenN (.region0 (.rn 1 [(47, qp 11 0)] [] (.bn ⟨some 48, .call true [[]] 96 [47], none, []⟩ (fun r5 => [(48, qj r5.1)]) (fun r5 => (W156 r5)) (fun r5 hr => pe (qc (ARGS := [qp 11 0]) (ks := [11]) (os := [(Reader_fields.cells r4.2)]) (os' := [(Reader_fields.cells r5.2)]) (F96_ok _ _ _ hr))) (fun r5 => ?_)))))
   refine SimI.rd 3 [(50, qp 6 3), (49, qp 6 2)] [(6, some (.cells [lj r1.1, li .u8 (iw .u8 r2.1), lj r4.1, lj r5.1, lj 0, ls be, lj 0, ls be, lj 0, ls be, lj 0, ls be]))] (.thenN (.seq (.label (.thenN (.seq (.sr 1 [(51, qj 0)] [] (.block (.loop (.succ (.seq (.rg [(2, qp 2 0), (5, qp 11 0), (6, qp 6 0), (51, qj 0)] (W68 r1 r2 r4 r5) (.rd 1 [(52, qb true)] [] (.thenN (.seq (.ct (.skip (.thenN (.seq (.block (.sr 2 [(8, qj 0), (53, qj 0)] [] (.block (.sr 6 (rp [54, 59] (qb (r5.2.e != 0)) ++ [(58, qj r5.2.e), (57, qp 11 2), (56, qp 11 0), (55, qp 11 0)]) [] (.cd _ ?_ ?_)))))))))))))))))))))))
   ·refine Sim.exit (.blockY rfl (.blockY rfl (.thenX (.loopX (.blockX (.thenN (.pr [2, 5, 6] [2, 6, 11] [] W24 (W68 r1 r2 r4 r5) ?_)))))))
    exact F95_j39_ok n r1 r2 r4 r5 r5.2 0 be 0 be 0 be 0 be
   ·refine Sim.st 3 [(63, qj 0), (62, .one (li .u8 (iw .u8 r2.1))), (61, qp 6 1)] [] (.cl 64 true [[], []] 89 [62, 63] none (fun r6 => qb r6) [.one (li .u8 (iw .u8 r2.1)), qj 0] (F89_ok _ _ _) (fun r6 => ?_))
    refine SimI.rd 1 [(60, qb r6)] [] (.thenN (.cd _ ?_ ?_))
    ·refine Sim.region0 (.rn 2 [(66, qp 11 0), (65, qj 0)] [] (.bn ⟨some 67, .call true [[]] 97 [66], none, []⟩ (fun r7 => (W86 r7)) (fun r7 => (W59 r7)) (fun r7 hr => pe (qc (ARGS := [qp 11 0]) (ks := [11]) (os := [(Reader_fields.cells r5.2)]) (os' := [(Reader_fields.cells r7.2)]) (F97_ok _ _ _ hr))) (fun r7 => ?_)))
     refine SimI.rd 3 [(69, qp 6 4), (68, qp 6 4)] [(6, some (.cells [lj r1.1, li .u8 (iw .u8 r2.1), lj r4.1, lj r5.1, lj r7.1.N, ls r7.1.Text, lj 0, ls be, lj 0, ls be, lj 0, ls be]))] (.blockN (.blockN (.thenN (.region0 (.rd 2 [(51, qj 1), (70, qj 1)] [] (.loopN (.pr [2, 5, 6, 51] [2, 6, 11] [] W41 [(2, some (.cells W1)), (6, some (.cells [lj r1.1, li .u8 (iw .u8 r2.1), lj r4.1, lj r5.1, lj r7.1.N, ls r7.1.Text, lj 0, ls be, lj 0, ls be, lj 0, ls be])), (11, some (.cells (Reader_fields.cells r7.2)))] ?_)))))))
     exact F95_u11_ok n r1 r2 r4 r5 r7.2 r7.1.N r7.1.Text
    ·refine Sim.skip (.blockN (.blockN (.thenN (.region0 (.rd 2 [(51, qj 1), (70, qj 1)] [] (.loopN (.pr [2, 5, 6, 51] [2, 6, 11] [] W41 (W68 r1 r2 r4 r5) ?_)))))))
     exact F95_u11_ok n r1 r2 r4 r5 r5.2 0 be
  ·refine Sim.skip (.thenN (.seq (.label (.thenN (.seq (.sr 1 [(51, qj 0)] [] (.block (.loop (.succ (.seq (.rg [(2, qp 2 0), (5, qp 11 0), (6, qp 6 0), (51, qj 0)] (W48 r1 r2) (.rd 1 [(52, qb true)] [] (.thenN (.seq (.ct (.skip (.thenN (.seq (.block (.sr 2 [(8, qj 0), (53, qj 0)] [] (.block (.sr 6 (rp [54, 59] (qb (r2.2.e != 0)) ++ [(58, qj r2.2.e), (57, qp 11 2), (56, qp 11 0), (55, qp 11 0)]) [] (.cd _ ?_ ?_)))))))))))))))))))))))
   ·refine Sim.exit (.blockY rfl (.blockY rfl (.thenX (.loopX (.blockX (.thenN (.pr [2, 5, 6] [2, 6, 11] [] W24 (W48 r1 r2) ?_)))))))
    exact F95_j74_ok n r1 r2 r2.2 0 be 0 be 0 be 0 be
   ·refine Sim.st 3 [(63, qj 0), (62, .one (li .u8 (iw .u8 r2.1))), (61, qp 6 1)] [] (.cl 64 true [[], []] 89 [62, 63] none (fun r41 => qb r41) [.one (li .u8 (iw .u8 r2.1)), qj 0] (F89_ok _ _ _) (fun r41 => ?_))
    refine SimI.rd 1 [(60, qb r41)] [] (.thenN (.cd _ ?_ ?_))
    ·refine Sim.region0 (.rn 2 [(66, qp 11 0), (65, qj 0)] [] (.bn ⟨some 67, .call true [[]] 97 [66], none, []⟩ (fun r42 => (W86 r42)) (fun r42 => (W59 r42)) (fun r42 hr => pe (qc (ARGS := [qp 11 0]) (ks := [11]) (os := [(Reader_fields.cells r2.2)]) (os' := [(Reader_fields.cells r42.2)]) (F97_ok _ _ _ hr))) (fun r42 => ?_)))
     refine SimI.rd 3 [(69, qp 6 4), (68, qp 6 4)] [(6, some (.cells [lj r1.1, li .u8 (iw .u8 r2.1), lj 0, lj 0, lj r42.1.N, ls r42.1.Text, lj 0, ls be, lj 0, ls be, lj 0, ls be]))] (.blockN (.blockN (.thenN (.region0 (.rd 2 [(51, qj 1), (70, qj 1)] [] (.loopN (.pr [2, 5, 6, 51] [2, 6, 11] [] W41 [(2, some (.cells W1)), (6, some (.cells [lj r1.1, li .u8 (iw .u8 r2.1), lj 0, lj 0, lj r42.1.N, ls r42.1.Text, lj 0, ls be, lj 0, ls be, lj 0, ls be])), (11, some (.cells (Reader_fields.cells r42.2)))] ?_)))))))
     exact F95_u46_ok n r1 r2 r42.2 r42.1.N r42.1.Text
    ·refine Sim.skip (.blockN (.blockN (.thenN (.region0 (.rd 2 [(51, qj 1), (70, qj 1)] [] (.loopN (.pr [2, 5, 6, 51] [2, 6, 11] [] W41 (W48 r1 r2) ?_)))))))
     exact F95_u46_ok n r1 r2 r2.2 0 be
def F95 (n : Nat) (a0 : ByteArray) : Option (Delta × Int × Int) :=
 (F96 n (Reader_fields.mk a0 0 0)).bind fun (r1 : (Int × Reader_fields)) =>
 (F96 n r1.2).bind fun (r2 : (Int × Reader_fields)) =>
 if r2.2.e == 0 then
  if decide ((1000000 : Int) < r1.1) then
   some ((Delta.mk 0 0 (Point.mk 0 0) (A4.mk (Field.mk 0 ByteArray.empty) (Field.mk 0 ByteArray.empty) (Field.mk 0 ByteArray.empty) (Field.mk 0 ByteArray.empty))), 0, 11)
  else
   if r2.1 == 0 then
    some ((Delta.mk 0 0 (Point.mk 0 0) (A4.mk (Field.mk 0 ByteArray.empty) (Field.mk 0 ByteArray.empty) (Field.mk 0 ByteArray.empty) (Field.mk 0 ByteArray.empty))), 0, 11)
   else
    if decide ((31 : Int) < r2.1) then
     some ((Delta.mk 0 0 (Point.mk 0 0) (A4.mk (Field.mk 0 ByteArray.empty) (Field.mk 0 ByteArray.empty) (Field.mk 0 ByteArray.empty) (Field.mk 0 ByteArray.empty))), 0, 11)
    else
     F95_j3 n r1 r2
 else
  F95_j3 n r1 r2
theorem F95_ok (n : Nat) (a0 : ByteArray) : ∀ r, F95 n a0 = some r → D 95 [.one (ls a0)] [] = some (F95_e r) := by
 refine fn_to (D := D) (n := n + 8) (nt := 90) (rs := pc95_r) (c := p95c74) (L := [(0, qs a0)]) (M := []) (k := 0) rfl rfl rfl rfl rfl rfl rfl ?_
 unfold F95
 refine Sim.sr 3 [(4, qj 0), (3, qj 0), (2, qp 2 0)] [(2, some (.cells W1))] (.scope (.sr 4 [(5, qp 11 0), (11, qp 11 0), (10, .agg [ls a0, lj 0, lj 0]), (9, qs a0)] [(11, some (.cells [ls a0, lj 0, lj 0]))] (.st 1 [(12, qp 11 0)] [] (.bn ⟨some 13, .call true [[]] 96 [12], none, []⟩ (fun r1 => [(13, qj r1.1)]) (fun r1 => (W156 r1)) (fun r1 hr => pe (qc (ARGS := [qp 11 0]) (ks := [11]) (os := [[ls a0, lj 0, lj 0]]) (os' := [(Reader_fields.cells r1.2)]) (F96_ok _ _ _ hr))) (fun r1 => ?_)))))
 refine SimI.rd 3 [(6, qp 6 0), (14, .agg (W50 r1))] [(6, some (.cells (W50 r1))), (6, some (.cells W1))] (.thenN (.st 1 [(15, qp 11 0)] [] (.bn ⟨some 16, .call true [[]] 96 [15], none, []⟩ (fun r2 => [(16, qj r2.1)]) (fun r2 => (W156 r2)) (fun r2 hr => pe (qc (ARGS := [qp 11 0]) (ks := [11]) (os := [(Reader_fields.cells r1.2)]) (os' := [(Reader_fields.cells r2.2)]) (F96_ok _ _ _ hr))) (fun r2 => ?_))))
 refine SimI.rd 1 [(7, qj r2.1)] [] (.thenN (.seq (.st 6 (rp [22, 21] (qb (r2.2.e == 0)) ++ [(20, qj r2.2.e), (19, qp 11 2), (18, qp 11 0), (17, qp 11 0)]) [] (.sp 22 _ ?_ ?_))))
 ·refine SimI.rn 4 (rp [26, 25] (qb (decide ((1000000 : Int) < r1.1))) ++ [(24, qj r1.1), (23, qp 6 0)]) [] (.sp 26 _ ?_ ?_)
  ·exact SimI.rd 8 [(34, qb true), (33, qb true), (32, tz), (31, tz), (30, qb true), (29, qb true), (28, tz), (27, tz)] [] (.thenN (.ct (.sr 4 [(4, qj 11), (3, qj 0), (35, .agg W1)] [(2, some (.cells W1))] (.ret (.thenR .fn)))))
  ·refine SimI.rn 4 (rp [30, 29, 28] (qb (r2.1 == 0)) ++ [(27, qj r2.1)]) [] (.sp 30 _ ?_ ?_)
   ·exact SimI.rd 4 [(34, qb true), (33, qb true), (32, tz), (31, tz)] [] (.thenN (.ct (.sr 4 [(4, qj 11), (3, qj 0), (35, .agg W1)] [(2, some (.cells W1))] (.ret (.thenR .fn)))))
   ·refine SimI.rd 4 (rp [34, 33, 32] (qb (decide ((31 : Int) < r2.1))) ++ [(31, qj r2.1)]) [] (.thenN (.cd _ ?_ ?_))
    ·exact Sim.sr 4 [(4, qj 11), (3, qj 0), (35, .agg W1)] [(2, some (.cells W1))] (.ret (.thenR .fn))
    ·refine Sim.skip (.thenN (.pr [2, 5, 6, 7] [2, 6, 11] [] [(2, qp 2 0), (5, qp 11 0), (6, qp 6 0), (7, qj r2.1)] (W123 r1 r2) ?_))
     exact F95_j3_ok n r1 r2
 ·refine SimI.rd 12 ([(34, qb false)] ++ rp [33, 32, 31, 30, 29, 28, 27, 26, 25, 24, 23] tz) [] (.thenN (.cf (.skip (.thenN (.pr [2, 5, 6, 7] [2, 6, 11] [] [(2, qp 2 0), (5, qp 11 0), (6, qp 6 0), (7, qj r2.1)] (W123 r1 r2) ?_)))))
  exact F95_j3_ok n r1 r2
def F92_e : (Thing × Int × Int) → PV × List Ob := fun r => (.tup [.agg (Thing.cells r.1), .one (li .i64 r.2.1), .one (li .i64 r.2.2)], [])
def F92 (n : Nat) (a0 : ByteArray) : Option (Thing × Int × Int) :=
 (F95 n a0).bind fun (r1 : (Delta × Int × Int)) =>
 if r1.2.2 != 0 then
  some ((Thing.mk 0 (Point.mk 0 0) (A4.mk (Field.mk 0 ByteArray.empty) (Field.mk 0 ByteArray.empty) (Field.mk 0 ByteArray.empty) (Field.mk 0 ByteArray.empty))), 0, r1.2.2)
 else
  if r1.1.Mask != 31 then
   some ((Thing.mk 0 (Point.mk 0 0) (A4.mk (Field.mk 0 ByteArray.empty) (Field.mk 0 ByteArray.empty) (Field.mk 0 ByteArray.empty) (Field.mk 0 ByteArray.empty))), 0, 11)
  else
   some ((Thing.mk r1.1.ID r1.1.At r1.1.F), r1.2.1, 0)
theorem F92_ok (n : Nat) (a0 : ByteArray) : ∀ r, F92 n a0 = some r → D 92 [.one (ls a0)] [] = some (F92_e r) := by
 refine fn_to (D := D) (n := n + 8) (nt := 32) (rs := pc92_r) (c := p92c22) (L := [(0, qs a0)]) (M := []) (k := 0) rfl rfl rfl rfl rfl rfl rfl ?_
 unfold F92
 refine Sim.sr 3 [(4, qj 0), (3, qj 0), (2, qp 2 0)] [(2, some (.cells W23))] (.st 1 [(9, qs a0)] [] (.cl 10 true [[]] 95 [9] none (fun r1 => .tup [.agg (Delta.cells r1.1), qj r1.2.1, qj r1.2.2]) [qs a0] (F95_ok _ _) (fun r1 => ?_)))
 refine SimI.rd 8 [(7, qj r1.2.2), (6, qj r1.2.1), (5, qp 5 0), (13, qj r1.2.2), (12, qj r1.2.1), (11, .agg (Delta.cells r1.1)), (8, .tup [.agg (Delta.cells r1.1), qj r1.2.1, qj r1.2.2])] [(5, some (.cells (Delta.cells r1.1))), (5, some (.cells W1))] (.thenN (.seq (.block (.sr 3 (rp [14, 16] (qb (r1.2.2 != 0)) ++ [(15, qj r1.2.2)]) [] (.cd _ ?_ ?_)))))
 ·exact Sim.sr 5 [(4, qj r1.2.2), (3, qj 0), (18, qj r1.2.2), (17, .agg W23)] [(2, some (.cells W23))] (.ret (.blockR (.thenR .fn)))
 ·refine Sim.sr 4 (rp [19, 22] (qb (r1.1.Mask != 31)) ++ [(21, .one (li .u8 r1.1.Mask)), (20, qp 5 1)]) [] (.cd _ ?_ ?_)
  ·exact Sim.sr 4 [(4, qj 11), (3, qj 0), (23, .agg W23)] [(2, some (.cells W23))] (.ret (.blockR (.thenR .fn)))
  ·exact Sim.skip (.blockN (.thenN (.sr 11 [(4, qj 0), (3, qj r1.2.1), (31, qj r1.2.1), (30, .agg (W91 r1)), (29, .agg (A4_Field.cells r1.1.F)), (28, qp 5 4), (27, .agg [lj r1.1.At.X, lj r1.1.At.Y]), (26, qp 5 2), (25, qj r1.1.ID), (24, qp 5 0)] [(2, some (.cells (W91 r1)))] (.ret .fn))))
def F84_e : ((List Thing) × Int × Int) → PV × List Ob := fun r => (.tup [.one (vw Thing.cod r.1), .one (li .i64 r.2.1), .one (li .i64 r.2.2)], [])
def F84_j14 (n : Nat) (ii8 : Int) (l9 : (List Thing)) (i10 : Int) (r12 : (Thing × Int × Int)) (rec_l11 : Int → (List Thing) → Int → Option ((List Thing) × Int × Int)) : Option ((List Thing) × Int × Int) :=
  if ((l9).length + 1) * 120 ≤ maxCells ∧ (l9).length + 1 ≤ maxCells then
   rec_l11 (IntKind.wrap .i64 (ii8 + r12.2.1)) (l9 ++ [r12.1]) (IntKind.wrap .u64 (i10 + 1))
  else none
theorem F84_j14_ok (n : Nat) (a0 : ByteArray) (r1 : (Int × Int × Int)) (ii8 : Int) (l9 : (List Thing)) (i10 : Int) (r12 : (Thing × Int × Int)) (rec_l11 : Int → (List Thing) → Int → Option ((List Thing) × Int × Int)) (m_l11 : Nat) (ih_l11 : ∀ (ii8 : Int) (l9 : (List Thing)) (i10 : Int), SimL Try.prog D (n + 8) m_l11 p84c48 (W152 a0 ii8 l9 r1 i10) (W124 l9) (rec_l11 ii8 l9 i10) (QB 1 (QT Try.prog D (n + 8) p84c54 (QF false pc84_r 0 F84_e)))) : Sim Try.prog D (n + 8) p84c40 (W127 a0 ii8 l9 r12 r1 i10) (W99 r12 l9) (F84_j14 n ii8 l9 i10 r12 rec_l11) (QB 2 (QT Try.prog D (n + 8) p84c45 (QL Try.prog D (n + 8) m_l11 p84c48 (QB 1 (QT Try.prog D (n + 8) p84c54 (QF false pc84_r 0 F84_e)))))) := by
  unfold F84_j14
  refine Sim.seq (.rs (.rn 3 [(56, .one (vw Thing.cod [r12.1])), (55, .agg (Thing.cells r12.1)), (54, .one (.osl 100008 0 0 (l9).length))] [] (.gu ⟨some 57, .app 100008 55 11 120 54 56, none, []⟩ [(57, .one (.osl 100008 (0 + 1) 0 ((l9 ++ [r12.1])).length))] [(100008, some (.arr 55 Thing.cod.sz (0 + 1) ((l9 ++ [r12.1])).length (getOf Thing.cod (l9 ++ [r12.1]))))] (fun hc => pe (eff_appO (c := Thing.cod) (g := 0) (l := l9) (a := r12.1) (by kernel_rfl) (by kernel_rfl) (by kernel_rfl) (by kernel_rfl) hc)) (.rd 1 [(8, .one (.osl 100008 (0 + 1) 0 ((l9 ++ [r12.1])).length))] [] (.thenN (.region0 (.rd 4 (rp [6, 60] (qj (iw .i64 (ii8 + r12.2.1))) ++ [(59, qj r12.2.1), (58, qj ii8)]) [] (.blockN (.thenN (.region0 (.rd 2 (rp [26, 61] (.one (li .u64 (iw .u64 (i10 + 1))))) [] (.loopN (.pr [0, 6, 8, 25, 26] [9, 100008] [(false, 8, 0, 100008, 55, 11)] [(0, qs a0), (6, qj (iw .i64 (ii8 + r12.2.1))), (8, .one (.osl 100008 0 0 ((l9 ++ [r12.1])).length)), (25, .one (li .u64 r1.1)), (26, .one (li .u64 (iw .u64 (i10 + 1))))] [(100008, some (.arr 55 Thing.cod.sz 0 ((l9 ++ [r12.1])).length (getOf Thing.cod (l9 ++ [r12.1]))))] ?_)))))))))))))
  exact ih_l11 (iw .i64 (ii8 + r12.2.1)) (l9 ++ [r12.1]) (iw .u64 (i10 + 1))
def F84_l11 (n : Nat) (a0 : ByteArray) (r1 : (Int × Int × Int)) : Nat → Int → (List Thing) → Int → Option ((List Thing) × Int × Int)
 | 0, _, _, _ => none
 | m + 1, ii8, l9, i10 =>
  if decide (i10 < r1.1) then
   if 0 ≤ (ii8 : Int) ∧ (ii8 : Int) ≤ (a0.size : Int) then
    (F92 n (a0.extract ii8.toNat a0.size)).bind fun (r12 : (Thing × Int × Int)) =>
    if r12.2.2 != 0 then
     some (([] : List Thing), 0, r12.2.2)
    else
     if decide ((0 : Int) < ((l9).length : Int)) then
      (ix l9 (IntKind.wrap .i64 (((l9).length : Int) - 1))).bind fun (x13 : Thing) =>
      if decide (r12.1.ID ≤ x13.ID) then
       some (([] : List Thing), 0, 11)
      else
       F84_j14 n ii8 l9 i10 r12 (F84_l11 n a0 r1 m)
     else
      F84_j14 n ii8 l9 i10 r12 (F84_l11 n a0 r1 m)
   else none
  else
   some (l9, ii8, 0)
theorem F84_l11_ok (n : Nat) (a0 : ByteArray) (r1 : (Int × Int × Int)) : ∀ (m : Nat) (ii8 : Int) (l9 : (List Thing)) (i10 : Int), SimL Try.prog D (n + 8) m p84c48 (W152 a0 ii8 l9 r1 i10) (W124 l9) (F84_l11 n a0 r1 m ii8 l9 i10) (QB 1 (QT Try.prog D (n + 8) p84c54 (QF false pc84_r 0 F84_e))) := by
 intro m_l11
 induction m_l11 with
 | zero => intro ii8 l9 i10; exact SimL.zero'  rfl
 | succ m_l11 ih_l11 =>
  intro ii8 l9 i10
  refine SimL.succ ?_
  unfold F84_l11
  refine Sim.seq (.rg (W152 a0 ii8 l9 r1 i10) (W124 l9) (.rd 1 [(27, qb (decide (i10 < r1.1)))] [] (.thenN (.seq (.cd _ ?_ ?_)))))
  ·refine Sim.skip (.thenN (.seq (.block (.st 2 [(30, qj ii8), (29, qs a0)] [] (.gp 31 (.slice 9 true false) [29, 30] none [] (fun hc => pr_cutL (s := a0) (k := .i64) (a := ii8) Try.underlying9 hc) (.cl 32 true [[]] 92 [31] none (fun r12 => .tup [.agg (Thing.cells r12.1), qj r12.2.1, qj r12.2.2]) [qs (a0.extract ii8.toNat a0.size)] (F92_ok _ _) (fun r12 => ?_)))))))
   refine SimI.rd 8 [(11, qj r12.2.2), (10, qj r12.2.1), (9, qp 9 0), (35, qj r12.2.2), (34, qj r12.2.1), (33, .agg (Thing.cells r12.1)), (28, .tup [.agg (Thing.cells r12.1), qj r12.2.1, qj r12.2.2])] [(9, some (.cells (Thing.cells r12.1))), (9, some (.cells W23))] (.thenN (.seq (.sr 2 [(37, qb (r12.2.2 != 0)), (36, qj r12.2.2)] [] (.cd _ ?_ ?_))))
   ·exact Sim.sr 4 [(4, qj r12.2.2), (3, qj 0), (2, .one (lnil)), (38, qj r12.2.2)] [] (.ret (.thenR (.blockR (.thenR (.loopR (.blockR (.thenR .fn)))))))
   ·refine Sim.skip (.thenN (.seq (.st 4 (rp [42, 41] (qb (decide ((0 : Int) < ((l9).length : Int)))) ++ [(40, qj ((l9).length : Int)), (39, .one (.osl 100008 0 0 (l9).length))]) [] (.sp 42 _ ?_ ?_))))
    ·refine SimI.rn 6 ([(48, qj (iw .i64 (((l9).length : Int) - 1))), (47, qj ((l9).length : Int))] ++ rp [46, 45] (.one (.osl 100008 0 0 (l9).length)) ++ [(44, qj r12.1.ID), (43, qp 9 0)]) [] (.bindh (og := ix l9 (iw .i64 (((l9).length : Int) - 1))) ⟨some 49, .iaddrS 11 45 48, some (42, true), [(45, Hint.obj 100008), (48, .imm)]⟩ (fun x13 => [(49, .one (.aptr 100008 0 ((iw .i64 (((l9).length : Int) - 1)).toNat) 0))]) (fun x13 => []) (by kernel_rfl) (fun x13 hr => pe (eff_idxO (c := Thing.cod) (l := l9) (g := 0) (el := 55) (k := .i64) (n := IntKind.wrap .i64 (((l9).length : Int) - 1)) (by kernel_rfl) (by kernel_rfl) (by kernel_rfl) (by kernel_rfl) hr)) (fun x13 hx13 => ?_))
     refine SimI.rn 1 [(50, .one (.aptr 100008 0 ((iw .i64 (((l9).length : Int) - 1)).toNat) 0))] [] (.se ⟨some 51, .load false 1 50, some (42, true), [(50, Hint.obj 100008)]⟩ [(51, qj x13.ID)] [] (pe (eff_loadO (c := Thing.cod) (a := x13) (l := l9) (key := 100008) (g := 0) (el := 55) (off := 0) (i := (iw .i64 (((l9).length : Int) - 1)).toNat) (by kernel_rfl) (by kernel_rfl) (ix_some hx13).2.2.2 (by kernel_rfl))) (.rd 2 (rp [53, 52] (qb (decide (r12.1.ID ≤ x13.ID)))) [] (.thenN (.cd _ ?_ ?_))))
     ·exact Sim.sr 3 [(4, qj 11), (3, qj 0), (2, .one (lnil))] [] (.ret (.thenR (.blockR (.thenR (.loopR (.blockR (.thenR .fn)))))))
     ·refine Sim.skip (.thenN (.pr [0, 6, 8, 9, 10, 25, 26] [9, 100008] [] (W127 a0 ii8 l9 r12 r1 i10) (W99 r12 l9) ?_))
      exact F84_j14_ok n a0 r1 ii8 l9 i10 r12 (F84_l11 n a0 r1 m_l11) m_l11 ih_l11
    ·refine SimI.rd 11 ([(53, qb false)] ++ rp [52, 51, 50, 49, 48, 47, 46, 45, 44, 43] tz) [] (.thenN (.cf (.skip (.thenN (.pr [0, 6, 8, 9, 10, 25, 26] [9, 100008] [] (W127 a0 ii8 l9 r12 r1 i10) (W99 r12 l9) ?_)))))
     exact F84_j14_ok n a0 r1 ii8 l9 i10 r12 (F84_l11 n a0 r1 m_l11) m_l11 ih_l11
  ·exact Sim.exit (.thenX (.loopX (.blockX (.thenN (.sr 5 [(4, qj 0), (3, qj ii8), (2, .one (.osl 100008 0 0 (l9).length)), (63, qj ii8), (62, .one (.osl 100008 0 0 (l9).length))] [] (.ret (.fin (out_of (os := []) (ress_cons (resOf_own (c := Thing.cod) (k := 100008) (g := 0) (el := 55) (l := l9) (by kernel_rfl) (by kernel_rfl) (by kernel_rfl)) (ress_cons (v := qj ii8) (by kernel_rfl) (ress_cons (v := qj 0) (by kernel_rfl) (ress_nil)))) (by kernel_rfl) rfl (by kernel_rfl)))))))))
def F84 (n : Nat) (a0 : ByteArray) : Option ((List Thing) × Int × Int) :=
 (F83 n a0).bind fun (r1 : (Int × Int × Int)) =>
 if r1.2.2 != 0 then
  some (([] : List Thing), 0, r1.2.2)
 else
  if decide ((200 : Int) < r1.1) then
   some (([] : List Thing), 0, 13)
  else
   F84_l11 n a0 r1 (n + 8) r1.2.1 ([] : List Thing) 0
theorem F84_ok (n : Nat) (a0 : ByteArray) : ∀ r, F84 n a0 = some r → D 84 [.one (ls a0)] [] = some (F84_e r) := by
 refine fn_to (D := D) (n := n + 8) (nt := 64) (rs := pc84_r) (c := p84c59) (L := [(0, qs a0)]) (M := []) (k := 0) rfl rfl rfl rfl rfl rfl rfl ?_
 unfold F84
 refine Sim.sr 3 [(4, qj 0), (3, qj 0), (2, .one (lnil))] [] (.st 1 [(13, qs a0)] [] (.cl 14 true [[]] 83 [13] none (fun r1 => .tup (W44 r1)) [qs a0] (F83_ok _ _) (fun r1 => ?_)))
 refine SimI.rd 7 [(7, qj r1.2.2), (6, qj r1.2.1), (5, .one (li .u64 r1.1)), (17, qj r1.2.2), (16, qj r1.2.1), (15, .one (li .u64 r1.1)), (12, .tup (W44 r1))] [] (.thenN (.seq (.block (.sr 3 (rp [18, 20] (qb (r1.2.2 != 0)) ++ [(19, qj r1.2.2)]) [] (.cd _ ?_ ?_)))))
 ·exact Sim.sr 4 [(4, qj r1.2.2), (3, qj 0), (2, .one (lnil)), (21, qj r1.2.2)] [] (.ret (.blockR (.thenR .fn)))
 ·refine Sim.sr 3 (rp [22, 24] (qb (decide ((200 : Int) < r1.1))) ++ [(23, .one (li .u64 r1.1))]) [] (.cd _ ?_ ?_)
  ·exact Sim.sr 3 [(4, qj 13), (3, qj 0), (2, .one (lnil))] [] (.ret (.blockR (.thenR .fn)))
  ·refine Sim.skip (.blockN (.thenN (.sr 1 [(8, .one (lnil))] [] (.seq (.sr 2 [(26, .one (li .u64 0)), (25, .one (li .u64 r1.1))] [] (.block (.loop (.pr [0, 6, 8, 25, 26] [9, 100008] [(false, 8, 0, 100008, 55, 11)] [(0, qs a0), (6, qj r1.2.1), (8, .one (.osl 100008 0 0 (([] : List Thing)).length)), (25, .one (li .u64 r1.1)), (26, .one (li .u64 0))] [(100008, some (.arr 55 Thing.cod.sz 0 (([] : List Thing)).length (getOf Thing.cod ([] : List Thing))))] ?_))))))))
   exact F84_l11_ok n a0 r1 (n + 8) r1.2.1 ([] : List Thing) 0
def F71_e : ((List Thing) × Reader) → PV × List Ob := fun r => (.one (vw Thing.cod r.1), [.cells (Reader.cells r.2)])
def F71 (n : Nat) (a0 : Reader) : Option ((List Thing) × Reader) :=
 if a0.fails then
  some (([] : List Thing), a0)
 else
  if 0 ≤ (a0.at_ : Int) ∧ (a0.at_ : Int) ≤ (a0.s.size : Int) then
   (F84 n (a0.s.extract a0.at_.toNat a0.s.size)).bind fun (r1 : ((List Thing) × Int × Int)) =>
   (F73 n a0 r1.2.1 r1.2.2).bind fun (r2 : Reader) =>
   some (r1.1, r2)
  else none
theorem F71_ok (n : Nat) (a0 : Reader) : ∀ r, F71 n a0 = some r → D 71 [.one (.ptr 1000000 0)] [.cells (Reader.cells a0)] = some (F71_e r) := by
 refine fn_to (D := D) (n := n + 8) (nt := 29) (rs := pc71_r) (c := p71c17) (L := [(0, qp 1000000 0)]) (M := (W62 a0)) (k := 1) rfl rfl rfl rfl rfl rfl rfl ?_
 unfold F71
 refine Sim.sr 1 [(2, .one (lnil))] [] (.seq (.sr 4 [(9, qb a0.fails), (8, qp 1000000 2), (7, qp 1000000 0), (6, qp 1000000 0)] [] (.cd _ ?_ ?_)))
 ·exact Sim.sr 1 [(2, .one (lnil))] [] (.ret (.thenR .fn))
 ·refine Sim.skip (.thenN (.st 8 ([(18, qj a0.at_), (17, qp 1000000 1), (16, qp 1000000 0), (15, qp 1000000 0), (14, qs a0.s)] ++ rp [13, 12, 11] (qp 1000000 0)) [] (.gp 19 (.slice 9 true false) [14, 18] none [(14, .imm), (18, .imm)] (fun hc => pr_cutL (s := a0.s) (k := .i64) (a := a0.at_) Try.underlying9 hc) (.cm 20 false [[]] 84 [19] none [(19, .imm)] (F84_ok _ _) (fun r1 => ?_)))))
  refine SimI.rd 7 [(5, qj r1.2.2), (4, qj r1.2.1), (3, .one (vw Thing.cod r1.1)), (23, qj r1.2.2), (22, qj r1.2.1), (21, .one (vw Thing.cod r1.1)), (10, .tup [.one (vw Thing.cod r1.1), qj r1.2.1, qj r1.2.2])] [] (.thenN (.st 3 [(26, qj r1.2.2), (25, qj r1.2.1), (24, qp 1000000 0)] [] (.bn ⟨some 27, .call true [[], [], []] 73 [24, 25, 26], none, []⟩ (fun r2 => [(27, tz)]) (fun r2 => (W62 r2)) (fun r2 hr => pe (qc (ARGS := [qp 1000000 0, qj r1.2.1, qj r1.2.2]) (ks := [1000000]) (os := [(Reader.cells a0)]) (os' := [(Reader.cells r2)]) (F73_ok _ _ _ _ _ hr))) (fun r2 => ?_))))
  exact SimI.dn (.thenN (.sr 2 (rp [2, 28] (.one (vw Thing.cod r1.1))) [] (.ret .fn)))
def F85s0_e (a0 : ByteArray) (a1 : Int) : (Int × Int × Int) → PV × List Ob := fun r => (.tup [.one (li .i64 r.1), .one (li .i64 r.2.1)], [.cells [ls a0], .cells [li .i64 r.2.2]])
def F85s0 (n : Nat) (a0 : ByteArray) (a1 : Int) : Option (Int × Int × Int) :=
 if 0 ≤ (a1 : Int) ∧ (a1 : Int) ≤ (a0.size : Int) then
  (F86 n (a0.extract a1.toNat a0.size)).bind fun (r1 : (Int × Int × Int)) =>
  some (r1.1, r1.2.2, (IntKind.wrap .i64 (a1 + r1.2.1)))
 else none
theorem F85s0_ok (n : Nat) (a0 : ByteArray) (a1 : Int) : ∀ r, F85s0 n a0 a1 = some r → D 85 [.one (.ptr 1000000 0), .one (.ptr 1000001 0)] [.cells [ls a0], .cells [li .i64 a1]] = some ((F85s0_e a0 a1) r) := by
 refine fn_to (D := D) (n := n + 8) (nt := 20) (rs := pc85_r) (c := p85c9) (L := [(0, qp 1000000 0), (1, qp 1000001 0)]) (M := [(1000000, some (.cells [ls a0])), (1000001, some (.cells [lj a1]))]) (k := 2) rfl rfl rfl rfl rfl rfl rfl ?_
 unfold F85s0
 refine Sim.sr 2 [(3, qj 0), (2, qj 0)] [] (.st 2 [(9, qj a1), (8, qs a0)] [] (.gp 10 (.slice 9 true false) [8, 9] none [] (fun hc => pr_cutL (s := a0) (k := .i64) (a := a1) Try.underlying9 hc) (.cl 11 true [[]] 86 [10] none (fun r1 => .tup [qj r1.1, qj r1.2.1, qj r1.2.2]) [qs (a0.extract a1.toNat a0.size)] (F86_ok _ _) (fun r1 => ?_))))
 exact SimI.rd 7 [(6, qj r1.2.2), (5, qj r1.2.1), (4, qj r1.1), (14, qj r1.2.2), (13, qj r1.2.1), (12, qj r1.1), (7, .tup [qj r1.1, qj r1.2.1, qj r1.2.2])] [] (.thenN (.sr 4 [(17, qj (iw .i64 (a1 + r1.2.1))), (16, qj r1.2.1), (15, qj a1)] [(1000001, some (.cells [lj (iw .i64 (a1 + r1.2.1))]))] (.sr 4 [(3, qj r1.2.2), (2, qj r1.1), (19, qj r1.2.2), (18, qj r1.1)] [] (.ret .fn))))
def F87s0_e (a0 : Command) (a1 : ByteArray) (a2 : Int) : (Int × Command × Int) → PV × List Ob := fun r => (.one (li .i64 r.1), [.cells [.ptr 1000001 0, .ptr 1000001 16, .ptr 1000001 17], .cells (Command.cells r.2.1), .cells [.fn 85 [.ptr 1000003 0, .ptr 1000004 0]], .cells [ls a1], .cells [li .i64 r.2.2]])
def F87s0 (n : Nat) (a0 : Command) (a1 : ByteArray) (a2 : Int) : Option (Int × Command × Int) :=
 (F85s0 n a1 a2).bind fun (r1 : (Int × Int × Int)) =>
 if r1.2.1 != 0 then
  some (r1.2.1, a0, r1.2.2)
 else
  (F85s0 n a1 r1.2.2).bind fun (r2 : (Int × Int × Int)) =>
  if r2.2.1 != 0 then
   some (r2.2.1, (Command.mk (imin (imax r1.1 (-1000001)) 1000001) a0.ID a0.Which a0.To a0.At a0.F a0.Value a0.Client a0.Session a0.Rect), r2.2.2)
  else
   (F85s0 n a1 r2.2.2).bind fun (r3 : (Int × Int × Int)) =>
   if r3.2.1 != 0 then
    some (r3.2.1, (Command.mk (imin (imax r1.1 (-1000001)) 1000001) a0.ID a0.Which a0.To a0.At a0.F a0.Value (imin (imax r2.1 (-1000001)) 1000001) a0.Session a0.Rect), r3.2.2)
   else
    some (0, (Command.mk (imin (imax r1.1 (-1000001)) 1000001) a0.ID a0.Which a0.To a0.At a0.F a0.Value (imin (imax r2.1 (-1000001)) 1000001) (imin (imax r3.1 (-1000001)) 1000001) a0.Rect), r3.2.2)
theorem F87s0_ok (n : Nat) (a0 : Command) (a1 : ByteArray) (a2 : Int) : ∀ r, F87s0 n a0 a1 a2 = some r → D 87 [.one (.csl 1000000 1 0 3), .one (.ptr 1000002 0)] [.cells [.ptr 1000001 0, .ptr 1000001 16, .ptr 1000001 17], .cells (Command.cells a0), .cells [.fn 85 [.ptr 1000003 0, .ptr 1000004 0]], .cells [ls a1], .cells [li .i64 a2]] = some ((F87s0_e a0 a1 a2) r) := by
 refine fn_to (D := D) (n := n + 8) (nt := 28) (rs := pc87_r) (c := p87c32) (L := [(0, .one (.csl 1000000 1 0 3)), (1, qp 1000002 0)]) (M := [(1000000, some (.cells W70)), (1000001, some (.cells (Command.cells a0))), (1000002, some (.cells [.fn 85 W2])), (1000003, some (.cells [ls a1])), (1000004, some (.cells [lj a2]))]) (k := 5) rfl rfl rfl rfl rfl rfl rfl ?_
 unfold F87s0
 refine Sim.sr 1 [(3, qj 0)] [] (.seq (.sr 3 [(10, qj 0), (9, qj 3), (8, .one (.csl 1000000 1 0 3))] [] (.block (.loop (.succ (.seq (.rg W159 [(1000000, some (.cells W70)), (1000001, some (.cells (Command.cells a0))), (1000002, some (.cells [.fn 85 W2])), (1000003, some (.cells [ls a1])), (1000004, some (.cells [lj a2]))] (.rd 1 [(11, qb true)] [] (.thenN (.seq (.ct (.skip (.thenN (.seq (.block (.sr 3 [(5, qp 1000001 0), (13, qp 1000001 0), (12, qp 1000000 0)] [] (.st 1 [(15, .one (.fn 85 W2))] [] (.bn ⟨some 16, .gcallv false false W6 [] 15 [], none, []⟩ (fun r1 => (W36 r1)) (fun r1 => [(1000003, some (.cells [ls a1])), (1000004, some (.cells [lj r1.2.2]))]) (fun r1 hr => pe (gv (ks := [1000003, 1000004]) (ARGS := W33) (caps := W2) (F85s0_ok _ _ _ _ hr))) (fun r1 => ?_)))))))))))))))))))
 refine SimI.rd 5 (W5 r1) [] (.thenN (.seq (.sr 2 (W21 r1) [] (.cd _ ?_ ?_))))
 ·exact Sim.sr 2 (W37 r1) [] (.ret (.thenR (.blockR (.thenR (.loopR (.blockR (.thenR .fn)))))))
 ·refine Sim.skip (.thenN (.region0 (.rd 6 [(26, qp 1000001 0), (25, qj (imin (imax r1.1 (-1000001)) 1000001)), (24, qj (imax r1.1 (-1000001))), (23, qj r1.1), (22, qp 1000001 0)] [(1000001, some (.cells [lj (imin (imax r1.1 (-1000001)) 1000001), lj a0.ID, lj a0.Which, lj a0.To, lj a0.At.X, lj a0.At.Y, lj a0.F.a0.N, ls a0.F.a0.Text, lj a0.F.a1.N, ls a0.F.a1.Text, lj a0.F.a2.N, ls a0.F.a2.Text, lj a0.F.a3.N, ls a0.F.a3.Text, lj a0.Value.N, ls a0.Value.Text, lj a0.Client, lj a0.Session, lj a0.Rect.X0, lj a0.Rect.Y0, lj a0.Rect.X1, lj a0.Rect.Y1]))] (.blockN (.thenN (.region0 (.rd 2 [(10, qj 1), (27, qj 1)] [] (.loopN (.succ (.seq (.rg W160 [(1000000, some (.cells W70)), (1000001, some (.cells [lj (imin (imax r1.1 (-1000001)) 1000001), lj a0.ID, lj a0.Which, lj a0.To, lj a0.At.X, lj a0.At.Y, lj a0.F.a0.N, ls a0.F.a0.Text, lj a0.F.a1.N, ls a0.F.a1.Text, lj a0.F.a2.N, ls a0.F.a2.Text, lj a0.F.a3.N, ls a0.F.a3.Text, lj a0.Value.N, ls a0.Value.Text, lj a0.Client, lj a0.Session, lj a0.Rect.X0, lj a0.Rect.Y0, lj a0.Rect.X1, lj a0.Rect.Y1])), (1000002, some (.cells [.fn 85 W2])), (1000003, some (.cells [ls a1])), (1000004, some (.cells [lj r1.2.2]))] (.rd 1 [(11, qb true)] [] (.thenN (.seq (.ct (.skip (.thenN (.seq (.block (.sr 3 [(5, qp 1000001 16), (13, qp 1000001 16), (12, qp 1000000 1)] [] (.st 1 [(15, .one (.fn 85 W2))] [] (.bn ⟨some 16, .gcallv false false W6 [] 15 [], none, []⟩ (fun r2 => (W36 r2)) (fun r2 => [(1000003, some (.cells [ls a1])), (1000004, some (.cells [lj r2.2.2]))]) (fun r2 hr => pe (gv (ks := [1000003, 1000004]) (ARGS := W33) (caps := W2) (F85s0_ok _ _ _ _ hr))) (fun r2 => ?_)))))))))))))))))))))))
  refine SimI.rd 5 (W5 r2) [] (.thenN (.seq (.sr 2 (W21 r2) [] (.cd _ ?_ ?_))))
  ·exact Sim.sr 2 (W37 r2) [] (.ret (.thenR (.blockR (.thenR (.loopR (.blockR (.thenR .fn)))))))
  ·refine Sim.skip (.thenN (.region0 (.rd 6 [(26, qp 1000001 16), (25, qj (imin (imax r2.1 (-1000001)) 1000001)), (24, qj (imax r2.1 (-1000001))), (23, qj r2.1), (22, qp 1000001 16)] [(1000001, some (.cells [lj (imin (imax r1.1 (-1000001)) 1000001), lj a0.ID, lj a0.Which, lj a0.To, lj a0.At.X, lj a0.At.Y, lj a0.F.a0.N, ls a0.F.a0.Text, lj a0.F.a1.N, ls a0.F.a1.Text, lj a0.F.a2.N, ls a0.F.a2.Text, lj a0.F.a3.N, ls a0.F.a3.Text, lj a0.Value.N, ls a0.Value.Text, lj (imin (imax r2.1 (-1000001)) 1000001), lj a0.Session, lj a0.Rect.X0, lj a0.Rect.Y0, lj a0.Rect.X1, lj a0.Rect.Y1]))] (.blockN (.thenN (.region0 (.rd 2 [(10, qj 2), (27, qj 2)] [] (.loopN (.succ (.seq (.rg W161 [(1000000, some (.cells W70)), (1000001, some (.cells [lj (imin (imax r1.1 (-1000001)) 1000001), lj a0.ID, lj a0.Which, lj a0.To, lj a0.At.X, lj a0.At.Y, lj a0.F.a0.N, ls a0.F.a0.Text, lj a0.F.a1.N, ls a0.F.a1.Text, lj a0.F.a2.N, ls a0.F.a2.Text, lj a0.F.a3.N, ls a0.F.a3.Text, lj a0.Value.N, ls a0.Value.Text, lj (imin (imax r2.1 (-1000001)) 1000001), lj a0.Session, lj a0.Rect.X0, lj a0.Rect.Y0, lj a0.Rect.X1, lj a0.Rect.Y1])), (1000002, some (.cells [.fn 85 W2])), (1000003, some (.cells [ls a1])), (1000004, some (.cells [lj r2.2.2]))] (.rd 1 [(11, qb true)] [] (.thenN (.seq (.ct (.skip (.thenN (.seq (.block (.sr 3 [(5, qp 1000001 17), (13, qp 1000001 17), (12, qp 1000000 2)] [] (.st 1 [(15, .one (.fn 85 W2))] [] (.bn ⟨some 16, .gcallv false false W6 [] 15 [], none, []⟩ (fun r3 => (W36 r3)) (fun r3 => [(1000003, some (.cells [ls a1])), (1000004, some (.cells [lj r3.2.2]))]) (fun r3 hr => pe (gv (ks := [1000003, 1000004]) (ARGS := W33) (caps := W2) (F85s0_ok _ _ _ _ hr))) (fun r3 => ?_)))))))))))))))))))))))
   refine SimI.rd 5 (W5 r3) [] (.thenN (.seq (.sr 2 (W21 r3) [] (.cd _ ?_ ?_))))
   ·exact Sim.sr 2 (W37 r3) [] (.ret (.thenR (.blockR (.thenR (.loopR (.blockR (.thenR .fn)))))))
   ·exact Sim.skip (.thenN (.region0 (.rd 6 [(26, qp 1000001 17), (25, qj (imin (imax r3.1 (-1000001)) 1000001)), (24, qj (imax r3.1 (-1000001))), (23, qj r3.1), (22, qp 1000001 17)] [(1000001, some (.cells [lj (imin (imax r1.1 (-1000001)) 1000001), lj a0.ID, lj a0.Which, lj a0.To, lj a0.At.X, lj a0.At.Y, lj a0.F.a0.N, ls a0.F.a0.Text, lj a0.F.a1.N, ls a0.F.a1.Text, lj a0.F.a2.N, ls a0.F.a2.Text, lj a0.F.a3.N, ls a0.F.a3.Text, lj a0.Value.N, ls a0.Value.Text, lj (imin (imax r2.1 (-1000001)) 1000001), lj (imin (imax r3.1 (-1000001)) 1000001), lj a0.Rect.X0, lj a0.Rect.Y0, lj a0.Rect.X1, lj a0.Rect.Y1]))] (.blockN (.thenN (.region0 (.rd 2 [(10, qj 3), (27, qj 3)] [] (.loopN (.succ (.seq (.rg W162 [(1000000, some (.cells W70)), (1000001, some (.cells [lj (imin (imax r1.1 (-1000001)) 1000001), lj a0.ID, lj a0.Which, lj a0.To, lj a0.At.X, lj a0.At.Y, lj a0.F.a0.N, ls a0.F.a0.Text, lj a0.F.a1.N, ls a0.F.a1.Text, lj a0.F.a2.N, ls a0.F.a2.Text, lj a0.F.a3.N, ls a0.F.a3.Text, lj a0.Value.N, ls a0.Value.Text, lj (imin (imax r2.1 (-1000001)) 1000001), lj (imin (imax r3.1 (-1000001)) 1000001), lj a0.Rect.X0, lj a0.Rect.Y0, lj a0.Rect.X1, lj a0.Rect.Y1])), (1000002, some (.cells [.fn 85 W2])), (1000003, some (.cells [ls a1])), (1000004, some (.cells [lj r3.2.2]))] (.rd 1 [(11, qb false)] [] (.thenN (.seq (.cf (.exit (.thenX (.loopX (.blockX (.thenN (.sr 1 [(3, qj 0)] [] (.ret .fn))))))))))))))))))))))
def F87s1_e (a0 : Command) (a1 : ByteArray) (a2 : Int) : (Int × Command × Int) → PV × List Ob := fun r => (.one (li .i64 r.1), [.cells [.ptr 1000001 18, .ptr 1000001 19, .ptr 1000001 20, .ptr 1000001 21], .cells (Command.cells r.2.1), .cells [.fn 85 [.ptr 1000003 0, .ptr 1000004 0]], .cells [ls a1], .cells [li .i64 r.2.2]])
def F87s1 (n : Nat) (a0 : Command) (a1 : ByteArray) (a2 : Int) : Option (Int × Command × Int) :=
 (F85s0 n a1 a2).bind fun (r1 : (Int × Int × Int)) =>
 if r1.2.1 != 0 then
  some (r1.2.1, a0, r1.2.2)
 else
  (F85s0 n a1 r1.2.2).bind fun (r2 : (Int × Int × Int)) =>
  if r2.2.1 != 0 then
   some (r2.2.1, (Command.mk a0.Kind a0.ID a0.Which a0.To a0.At a0.F a0.Value a0.Client a0.Session (Rect.mk (imin (imax r1.1 (-1000001)) 1000001) a0.Rect.Y0 a0.Rect.X1 a0.Rect.Y1)), r2.2.2)
  else
   (F85s0 n a1 r2.2.2).bind fun (r3 : (Int × Int × Int)) =>
   if r3.2.1 != 0 then
    some (r3.2.1, (Command.mk a0.Kind a0.ID a0.Which a0.To a0.At a0.F a0.Value a0.Client a0.Session (Rect.mk (imin (imax r1.1 (-1000001)) 1000001) (imin (imax r2.1 (-1000001)) 1000001) a0.Rect.X1 a0.Rect.Y1)), r3.2.2)
   else
    (F85s0 n a1 r3.2.2).bind fun (r4 : (Int × Int × Int)) =>
    if r4.2.1 != 0 then
     some (r4.2.1, (Command.mk a0.Kind a0.ID a0.Which a0.To a0.At a0.F a0.Value a0.Client a0.Session (Rect.mk (imin (imax r1.1 (-1000001)) 1000001) (imin (imax r2.1 (-1000001)) 1000001) (imin (imax r3.1 (-1000001)) 1000001) a0.Rect.Y1)), r4.2.2)
    else
     some (0, (Command.mk a0.Kind a0.ID a0.Which a0.To a0.At a0.F a0.Value a0.Client a0.Session (Rect.mk (imin (imax r1.1 (-1000001)) 1000001) (imin (imax r2.1 (-1000001)) 1000001) (imin (imax r3.1 (-1000001)) 1000001) (imin (imax r4.1 (-1000001)) 1000001))), r4.2.2)
theorem F87s1_ok (n : Nat) (a0 : Command) (a1 : ByteArray) (a2 : Int) : ∀ r, F87s1 n a0 a1 a2 = some r → D 87 [.one (.csl 1000000 1 0 4), .one (.ptr 1000002 0)] [.cells [.ptr 1000001 18, .ptr 1000001 19, .ptr 1000001 20, .ptr 1000001 21], .cells (Command.cells a0), .cells [.fn 85 [.ptr 1000003 0, .ptr 1000004 0]], .cells [ls a1], .cells [li .i64 a2]] = some ((F87s1_e a0 a1 a2) r) := by
 refine fn_to (D := D) (n := n + 8) (nt := 28) (rs := pc87_r) (c := p87c32) (L := [(0, .one (.csl 1000000 1 0 4)), (1, qp 1000002 0)]) (M := [(1000000, some (.cells W42)), (1000001, some (.cells (Command.cells a0))), (1000002, some (.cells [.fn 85 W2])), (1000003, some (.cells [ls a1])), (1000004, some (.cells [lj a2]))]) (k := 5) rfl rfl rfl rfl rfl rfl rfl ?_
 unfold F87s1
 refine Sim.sr 1 [(3, qj 0)] [] (.seq (.sr 3 [(10, qj 0), (9, qj 4), (8, .one (.csl 1000000 1 0 4))] [] (.block (.loop (.succ (.seq (.rg [(1, qp 1000002 0), (8, .one (.csl 1000000 1 0 4)), (9, qj 4), (10, qj 0)] [(1000000, some (.cells W42)), (1000001, some (.cells (Command.cells a0))), (1000002, some (.cells [.fn 85 W2])), (1000003, some (.cells [ls a1])), (1000004, some (.cells [lj a2]))] (.rd 1 [(11, qb true)] [] (.thenN (.seq (.ct (.skip (.thenN (.seq (.block (.sr 3 [(5, qp 1000001 18), (13, qp 1000001 18), (12, qp 1000000 0)] [] (.st 1 [(15, .one (.fn 85 W2))] [] (.bn ⟨some 16, .gcallv false false W6 [] 15 [], none, []⟩ (fun r1 => (W36 r1)) (fun r1 => [(1000003, some (.cells [ls a1])), (1000004, some (.cells [lj r1.2.2]))]) (fun r1 hr => pe (gv (ks := [1000003, 1000004]) (ARGS := W33) (caps := W2) (F85s0_ok _ _ _ _ hr))) (fun r1 => ?_)))))))))))))))))))
 refine SimI.rd 5 (W5 r1) [] (.thenN (.seq (.sr 2 (W21 r1) [] (.cd _ ?_ ?_))))
 ·exact Sim.sr 2 (W37 r1) [] (.ret (.thenR (.blockR (.thenR (.loopR (.blockR (.thenR .fn)))))))
 ·refine Sim.skip (.thenN (.region0 (.rd 6 [(26, qp 1000001 18), (25, qj (imin (imax r1.1 (-1000001)) 1000001)), (24, qj (imax r1.1 (-1000001))), (23, qj r1.1), (22, qp 1000001 18)] [(1000001, some (.cells [lj a0.Kind, lj a0.ID, lj a0.Which, lj a0.To, lj a0.At.X, lj a0.At.Y, lj a0.F.a0.N, ls a0.F.a0.Text, lj a0.F.a1.N, ls a0.F.a1.Text, lj a0.F.a2.N, ls a0.F.a2.Text, lj a0.F.a3.N, ls a0.F.a3.Text, lj a0.Value.N, ls a0.Value.Text, lj a0.Client, lj a0.Session, lj (imin (imax r1.1 (-1000001)) 1000001), lj a0.Rect.Y0, lj a0.Rect.X1, lj a0.Rect.Y1]))] (.blockN (.thenN (.region0 (.rd 2 [(10, qj 1), (27, qj 1)] [] (.loopN (.succ (.seq (.rg [(1, qp 1000002 0), (8, .one (.csl 1000000 1 0 4)), (9, qj 4), (10, qj 1)] [(1000000, some (.cells W42)), (1000001, some (.cells [lj a0.Kind, lj a0.ID, lj a0.Which, lj a0.To, lj a0.At.X, lj a0.At.Y, lj a0.F.a0.N, ls a0.F.a0.Text, lj a0.F.a1.N, ls a0.F.a1.Text, lj a0.F.a2.N, ls a0.F.a2.Text, lj a0.F.a3.N, ls a0.F.a3.Text, lj a0.Value.N, ls a0.Value.Text, lj a0.Client, lj a0.Session, lj (imin (imax r1.1 (-1000001)) 1000001), lj a0.Rect.Y0, lj a0.Rect.X1, lj a0.Rect.Y1])), (1000002, some (.cells [.fn 85 W2])), (1000003, some (.cells [ls a1])), (1000004, some (.cells [lj r1.2.2]))] (.rd 1 [(11, qb true)] [] (.thenN (.seq (.ct (.skip (.thenN (.seq (.block (.sr 3 [(5, qp 1000001 19), (13, qp 1000001 19), (12, qp 1000000 1)] [] (.st 1 [(15, .one (.fn 85 W2))] [] (.bn ⟨some 16, .gcallv false false W6 [] 15 [], none, []⟩ (fun r2 => (W36 r2)) (fun r2 => [(1000003, some (.cells [ls a1])), (1000004, some (.cells [lj r2.2.2]))]) (fun r2 hr => pe (gv (ks := [1000003, 1000004]) (ARGS := W33) (caps := W2) (F85s0_ok _ _ _ _ hr))) (fun r2 => ?_)))))))))))))))))))))))
  refine SimI.rd 5 (W5 r2) [] (.thenN (.seq (.sr 2 (W21 r2) [] (.cd _ ?_ ?_))))
  ·exact Sim.sr 2 (W37 r2) [] (.ret (.thenR (.blockR (.thenR (.loopR (.blockR (.thenR .fn)))))))
  ·refine Sim.skip (.thenN (.region0 (.rd 6 [(26, qp 1000001 19), (25, qj (imin (imax r2.1 (-1000001)) 1000001)), (24, qj (imax r2.1 (-1000001))), (23, qj r2.1), (22, qp 1000001 19)] [(1000001, some (.cells [lj a0.Kind, lj a0.ID, lj a0.Which, lj a0.To, lj a0.At.X, lj a0.At.Y, lj a0.F.a0.N, ls a0.F.a0.Text, lj a0.F.a1.N, ls a0.F.a1.Text, lj a0.F.a2.N, ls a0.F.a2.Text, lj a0.F.a3.N, ls a0.F.a3.Text, lj a0.Value.N, ls a0.Value.Text, lj a0.Client, lj a0.Session, lj (imin (imax r1.1 (-1000001)) 1000001), lj (imin (imax r2.1 (-1000001)) 1000001), lj a0.Rect.X1, lj a0.Rect.Y1]))] (.blockN (.thenN (.region0 (.rd 2 [(10, qj 2), (27, qj 2)] [] (.loopN (.succ (.seq (.rg [(1, qp 1000002 0), (8, .one (.csl 1000000 1 0 4)), (9, qj 4), (10, qj 2)] [(1000000, some (.cells W42)), (1000001, some (.cells [lj a0.Kind, lj a0.ID, lj a0.Which, lj a0.To, lj a0.At.X, lj a0.At.Y, lj a0.F.a0.N, ls a0.F.a0.Text, lj a0.F.a1.N, ls a0.F.a1.Text, lj a0.F.a2.N, ls a0.F.a2.Text, lj a0.F.a3.N, ls a0.F.a3.Text, lj a0.Value.N, ls a0.Value.Text, lj a0.Client, lj a0.Session, lj (imin (imax r1.1 (-1000001)) 1000001), lj (imin (imax r2.1 (-1000001)) 1000001), lj a0.Rect.X1, lj a0.Rect.Y1])), (1000002, some (.cells [.fn 85 W2])), (1000003, some (.cells [ls a1])), (1000004, some (.cells [lj r2.2.2]))] (.rd 1 [(11, qb true)] [] (.thenN (.seq (.ct (.skip (.thenN (.seq (.block (.sr 3 [(5, qp 1000001 20), (13, qp 1000001 20), (12, qp 1000000 2)] [] (.st 1 [(15, .one (.fn 85 W2))] [] (.bn ⟨some 16, .gcallv false false W6 [] 15 [], none, []⟩ (fun r3 => (W36 r3)) (fun r3 => [(1000003, some (.cells [ls a1])), (1000004, some (.cells [lj r3.2.2]))]) (fun r3 hr => pe (gv (ks := [1000003, 1000004]) (ARGS := W33) (caps := W2) (F85s0_ok _ _ _ _ hr))) (fun r3 => ?_)))))))))))))))))))))))
   refine SimI.rd 5 (W5 r3) [] (.thenN (.seq (.sr 2 (W21 r3) [] (.cd _ ?_ ?_))))
   ·exact Sim.sr 2 (W37 r3) [] (.ret (.thenR (.blockR (.thenR (.loopR (.blockR (.thenR .fn)))))))
   ·refine Sim.skip (.thenN (.region0 (.rd 6 [(26, qp 1000001 20), (25, qj (imin (imax r3.1 (-1000001)) 1000001)), (24, qj (imax r3.1 (-1000001))), (23, qj r3.1), (22, qp 1000001 20)] [(1000001, some (.cells [lj a0.Kind, lj a0.ID, lj a0.Which, lj a0.To, lj a0.At.X, lj a0.At.Y, lj a0.F.a0.N, ls a0.F.a0.Text, lj a0.F.a1.N, ls a0.F.a1.Text, lj a0.F.a2.N, ls a0.F.a2.Text, lj a0.F.a3.N, ls a0.F.a3.Text, lj a0.Value.N, ls a0.Value.Text, lj a0.Client, lj a0.Session, lj (imin (imax r1.1 (-1000001)) 1000001), lj (imin (imax r2.1 (-1000001)) 1000001), lj (imin (imax r3.1 (-1000001)) 1000001), lj a0.Rect.Y1]))] (.blockN (.thenN (.region0 (.rd 2 [(10, qj 3), (27, qj 3)] [] (.loopN (.succ (.seq (.rg [(1, qp 1000002 0), (8, .one (.csl 1000000 1 0 4)), (9, qj 4), (10, qj 3)] [(1000000, some (.cells W42)), (1000001, some (.cells [lj a0.Kind, lj a0.ID, lj a0.Which, lj a0.To, lj a0.At.X, lj a0.At.Y, lj a0.F.a0.N, ls a0.F.a0.Text, lj a0.F.a1.N, ls a0.F.a1.Text, lj a0.F.a2.N, ls a0.F.a2.Text, lj a0.F.a3.N, ls a0.F.a3.Text, lj a0.Value.N, ls a0.Value.Text, lj a0.Client, lj a0.Session, lj (imin (imax r1.1 (-1000001)) 1000001), lj (imin (imax r2.1 (-1000001)) 1000001), lj (imin (imax r3.1 (-1000001)) 1000001), lj a0.Rect.Y1])), (1000002, some (.cells [.fn 85 W2])), (1000003, some (.cells [ls a1])), (1000004, some (.cells [lj r3.2.2]))] (.rd 1 [(11, qb true)] [] (.thenN (.seq (.ct (.skip (.thenN (.seq (.block (.sr 3 [(5, qp 1000001 21), (13, qp 1000001 21), (12, qp 1000000 3)] [] (.st 1 [(15, .one (.fn 85 W2))] [] (.bn ⟨some 16, .gcallv false false W6 [] 15 [], none, []⟩ (fun r4 => (W36 r4)) (fun r4 => [(1000003, some (.cells [ls a1])), (1000004, some (.cells [lj r4.2.2]))]) (fun r4 hr => pe (gv (ks := [1000003, 1000004]) (ARGS := W33) (caps := W2) (F85s0_ok _ _ _ _ hr))) (fun r4 => ?_)))))))))))))))))))))))
    refine SimI.rd 5 (W5 r4) [] (.thenN (.seq (.sr 2 (W21 r4) [] (.cd _ ?_ ?_))))
    ·exact Sim.sr 2 (W37 r4) [] (.ret (.thenR (.blockR (.thenR (.loopR (.blockR (.thenR .fn)))))))
    ·exact Sim.skip (.thenN (.region0 (.rd 6 [(26, qp 1000001 21), (25, qj (imin (imax r4.1 (-1000001)) 1000001)), (24, qj (imax r4.1 (-1000001))), (23, qj r4.1), (22, qp 1000001 21)] [(1000001, some (.cells [lj a0.Kind, lj a0.ID, lj a0.Which, lj a0.To, lj a0.At.X, lj a0.At.Y, lj a0.F.a0.N, ls a0.F.a0.Text, lj a0.F.a1.N, ls a0.F.a1.Text, lj a0.F.a2.N, ls a0.F.a2.Text, lj a0.F.a3.N, ls a0.F.a3.Text, lj a0.Value.N, ls a0.Value.Text, lj a0.Client, lj a0.Session, lj (imin (imax r1.1 (-1000001)) 1000001), lj (imin (imax r2.1 (-1000001)) 1000001), lj (imin (imax r3.1 (-1000001)) 1000001), lj (imin (imax r4.1 (-1000001)) 1000001)]))] (.blockN (.thenN (.region0 (.rd 2 [(10, qj 4), (27, qj 4)] [] (.loopN (.succ (.seq (.rg [(1, qp 1000002 0), (8, .one (.csl 1000000 1 0 4)), (9, qj 4), (10, qj 4)] [(1000000, some (.cells W42)), (1000001, some (.cells [lj a0.Kind, lj a0.ID, lj a0.Which, lj a0.To, lj a0.At.X, lj a0.At.Y, lj a0.F.a0.N, ls a0.F.a0.Text, lj a0.F.a1.N, ls a0.F.a1.Text, lj a0.F.a2.N, ls a0.F.a2.Text, lj a0.F.a3.N, ls a0.F.a3.Text, lj a0.Value.N, ls a0.Value.Text, lj a0.Client, lj a0.Session, lj (imin (imax r1.1 (-1000001)) 1000001), lj (imin (imax r2.1 (-1000001)) 1000001), lj (imin (imax r3.1 (-1000001)) 1000001), lj (imin (imax r4.1 (-1000001)) 1000001)])), (1000002, some (.cells [.fn 85 W2])), (1000003, some (.cells [ls a1])), (1000004, some (.cells [lj r4.2.2]))] (.rd 1 [(11, qb false)] [] (.thenN (.seq (.cf (.exit (.thenX (.loopX (.blockX (.thenN (.sr 1 [(3, qj 0)] [] (.ret .fn))))))))))))))))))))))
def F87s2_e (a0 : Command) (a1 : ByteArray) (a2 : Int) : (Int × Command × Int) → PV × List Ob := fun r => (.one (li .i64 r.1), [.cells [.ptr 1000001 2, .ptr 1000001 3], .cells (Command.cells r.2.1), .cells [.fn 85 [.ptr 1000003 0, .ptr 1000004 0]], .cells [ls a1], .cells [li .i64 r.2.2]])
def F87s2 (n : Nat) (a0 : Command) (a1 : ByteArray) (a2 : Int) : Option (Int × Command × Int) :=
 (F85s0 n a1 a2).bind fun (r1 : (Int × Int × Int)) =>
 if r1.2.1 != 0 then
  some (r1.2.1, a0, r1.2.2)
 else
  (F85s0 n a1 r1.2.2).bind fun (r2 : (Int × Int × Int)) =>
  if r2.2.1 != 0 then
   some (r2.2.1, (Command.mk a0.Kind a0.ID (imin (imax r1.1 (-1000001)) 1000001) a0.To a0.At a0.F a0.Value a0.Client a0.Session a0.Rect), r2.2.2)
  else
   some (0, (Command.mk a0.Kind a0.ID (imin (imax r1.1 (-1000001)) 1000001) (imin (imax r2.1 (-1000001)) 1000001) a0.At a0.F a0.Value a0.Client a0.Session a0.Rect), r2.2.2)
theorem F87s2_ok (n : Nat) (a0 : Command) (a1 : ByteArray) (a2 : Int) : ∀ r, F87s2 n a0 a1 a2 = some r → D 87 [.one (.csl 1000000 1 0 2), .one (.ptr 1000002 0)] [.cells [.ptr 1000001 2, .ptr 1000001 3], .cells (Command.cells a0), .cells [.fn 85 [.ptr 1000003 0, .ptr 1000004 0]], .cells [ls a1], .cells [li .i64 a2]] = some ((F87s2_e a0 a1 a2) r) := by
 refine fn_to (D := D) (n := n + 8) (nt := 28) (rs := pc87_r) (c := p87c32) (L := W133) (M := [(1000000, some (.cells W134)), (1000001, some (.cells (Command.cells a0))), (1000002, some (.cells [.fn 85 W2])), (1000003, some (.cells [ls a1])), (1000004, some (.cells [lj a2]))]) (k := 5) rfl rfl rfl rfl rfl rfl rfl ?_
 unfold F87s2
 refine Sim.sr 1 [(3, qj 0)] [] (.seq (.sr 3 W122 [] (.block (.loop (.succ (.seq (.rg W94 [(1000000, some (.cells W134)), (1000001, some (.cells (Command.cells a0))), (1000002, some (.cells [.fn 85 W2])), (1000003, some (.cells [ls a1])), (1000004, some (.cells [lj a2]))] (.rd 1 [(11, qb true)] [] (.thenN (.seq (.ct (.skip (.thenN (.seq (.block (.sr 3 [(5, qp 1000001 2), (13, qp 1000001 2), (12, qp 1000000 0)] [] (.st 1 [(15, .one (.fn 85 W2))] [] (.bn ⟨some 16, .gcallv false false W6 [] 15 [], none, []⟩ (fun r1 => (W36 r1)) (fun r1 => [(1000003, some (.cells [ls a1])), (1000004, some (.cells [lj r1.2.2]))]) (fun r1 hr => pe (gv (ks := [1000003, 1000004]) (ARGS := W33) (caps := W2) (F85s0_ok _ _ _ _ hr))) (fun r1 => ?_)))))))))))))))))))
 refine SimI.rd 5 (W5 r1) [] (.thenN (.seq (.sr 2 (W21 r1) [] (.cd _ ?_ ?_))))
 ·exact Sim.sr 2 (W37 r1) [] (.ret (.thenR (.blockR (.thenR (.loopR (.blockR (.thenR .fn)))))))
 ·refine Sim.skip (.thenN (.region0 (.rd 6 (W128 r1) [(1000001, some (.cells [lj a0.Kind, lj a0.ID, lj (imin (imax r1.1 (-1000001)) 1000001), lj a0.To, lj a0.At.X, lj a0.At.Y, lj a0.F.a0.N, ls a0.F.a0.Text, lj a0.F.a1.N, ls a0.F.a1.Text, lj a0.F.a2.N, ls a0.F.a2.Text, lj a0.F.a3.N, ls a0.F.a3.Text, lj a0.Value.N, ls a0.Value.Text, lj a0.Client, lj a0.Session, lj a0.Rect.X0, lj a0.Rect.Y0, lj a0.Rect.X1, lj a0.Rect.Y1]))] (.blockN (.thenN (.region0 (.rd 2 [(10, qj 1), (27, qj 1)] [] (.loopN (.succ (.seq (.rg W95 [(1000000, some (.cells W134)), (1000001, some (.cells [lj a0.Kind, lj a0.ID, lj (imin (imax r1.1 (-1000001)) 1000001), lj a0.To, lj a0.At.X, lj a0.At.Y, lj a0.F.a0.N, ls a0.F.a0.Text, lj a0.F.a1.N, ls a0.F.a1.Text, lj a0.F.a2.N, ls a0.F.a2.Text, lj a0.F.a3.N, ls a0.F.a3.Text, lj a0.Value.N, ls a0.Value.Text, lj a0.Client, lj a0.Session, lj a0.Rect.X0, lj a0.Rect.Y0, lj a0.Rect.X1, lj a0.Rect.Y1])), (1000002, some (.cells [.fn 85 W2])), (1000003, some (.cells [ls a1])), (1000004, some (.cells [lj r1.2.2]))] (.rd 1 [(11, qb true)] [] (.thenN (.seq (.ct (.skip (.thenN (.seq (.block (.sr 3 [(5, qp 1000001 3), (13, qp 1000001 3), (12, qp 1000000 1)] [] (.st 1 [(15, .one (.fn 85 W2))] [] (.bn ⟨some 16, .gcallv false false W6 [] 15 [], none, []⟩ (fun r2 => (W36 r2)) (fun r2 => [(1000003, some (.cells [ls a1])), (1000004, some (.cells [lj r2.2.2]))]) (fun r2 hr => pe (gv (ks := [1000003, 1000004]) (ARGS := W33) (caps := W2) (F85s0_ok _ _ _ _ hr))) (fun r2 => ?_)))))))))))))))))))))))
  refine SimI.rd 5 (W5 r2) [] (.thenN (.seq (.sr 2 (W21 r2) [] (.cd _ ?_ ?_))))
  ·exact Sim.sr 2 (W37 r2) [] (.ret (.thenR (.blockR (.thenR (.loopR (.blockR (.thenR .fn)))))))
  ·exact Sim.skip (.thenN (.region0 (.rd 6 [(26, qp 1000001 3), (25, qj (imin (imax r2.1 (-1000001)) 1000001)), (24, qj (imax r2.1 (-1000001))), (23, qj r2.1), (22, qp 1000001 3)] [(1000001, some (.cells [lj a0.Kind, lj a0.ID, lj (imin (imax r1.1 (-1000001)) 1000001), lj (imin (imax r2.1 (-1000001)) 1000001), lj a0.At.X, lj a0.At.Y, lj a0.F.a0.N, ls a0.F.a0.Text, lj a0.F.a1.N, ls a0.F.a1.Text, lj a0.F.a2.N, ls a0.F.a2.Text, lj a0.F.a3.N, ls a0.F.a3.Text, lj a0.Value.N, ls a0.Value.Text, lj a0.Client, lj a0.Session, lj a0.Rect.X0, lj a0.Rect.Y0, lj a0.Rect.X1, lj a0.Rect.Y1]))] (.blockN (.thenN (.region0 (.rd 2 [(10, qj 2), (27, qj 2)] [] (.loopN (.succ (.seq (.rg W96 [(1000000, some (.cells W134)), (1000001, some (.cells [lj a0.Kind, lj a0.ID, lj (imin (imax r1.1 (-1000001)) 1000001), lj (imin (imax r2.1 (-1000001)) 1000001), lj a0.At.X, lj a0.At.Y, lj a0.F.a0.N, ls a0.F.a0.Text, lj a0.F.a1.N, ls a0.F.a1.Text, lj a0.F.a2.N, ls a0.F.a2.Text, lj a0.F.a3.N, ls a0.F.a3.Text, lj a0.Value.N, ls a0.Value.Text, lj a0.Client, lj a0.Session, lj a0.Rect.X0, lj a0.Rect.Y0, lj a0.Rect.X1, lj a0.Rect.Y1])), (1000002, some (.cells [.fn 85 W2])), (1000003, some (.cells [ls a1])), (1000004, some (.cells [lj r2.2.2]))] (.rd 1 [(11, qb false)] [] (.thenN (.seq (.cf (.exit (.thenX (.loopX (.blockX (.thenN (.sr 1 [(3, qj 0)] [] (.ret .fn))))))))))))))))))))))
def F87s3_e (a0 : Command) (a1 : ByteArray) (a2 : Int) : (Int × Command × Int) → PV × List Ob := fun r => (.one (li .i64 r.1), [.cells [.ptr 1000001 1], .cells (Command.cells r.2.1), .cells [.fn 85 [.ptr 1000003 0, .ptr 1000004 0]], .cells [ls a1], .cells [li .i64 r.2.2]])
def F87s3 (n : Nat) (a0 : Command) (a1 : ByteArray) (a2 : Int) : Option (Int × Command × Int) :=
 (F85s0 n a1 a2).bind fun (r1 : (Int × Int × Int)) =>
 if r1.2.1 != 0 then
  some (r1.2.1, a0, r1.2.2)
 else
  some (0, (Command.mk a0.Kind (imin (imax r1.1 (-1000001)) 1000001) a0.Which a0.To a0.At a0.F a0.Value a0.Client a0.Session a0.Rect), r1.2.2)
theorem F87s3_ok (n : Nat) (a0 : Command) (a1 : ByteArray) (a2 : Int) : ∀ r, F87s3 n a0 a1 a2 = some r → D 87 [.one (.csl 1000000 1 0 1), .one (.ptr 1000002 0)] [.cells [.ptr 1000001 1], .cells (Command.cells a0), .cells [.fn 85 [.ptr 1000003 0, .ptr 1000004 0]], .cells [ls a1], .cells [li .i64 a2]] = some ((F87s3_e a0 a1 a2) r) := by
 refine fn_to (D := D) (n := n + 8) (nt := 28) (rs := pc87_r) (c := p87c32) (L := [(0, .one (.csl 1000000 1 0 1)), (1, qp 1000002 0)]) (M := [(1000000, some (.cells [.ptr 1000001 1])), (1000001, some (.cells (Command.cells a0))), (1000002, some (.cells [.fn 85 W2])), (1000003, some (.cells [ls a1])), (1000004, some (.cells [lj a2]))]) (k := 5) rfl rfl rfl rfl rfl rfl rfl ?_
 unfold F87s3
 refine Sim.sr 1 [(3, qj 0)] [] (.seq (.sr 3 [(10, qj 0), (9, qj 1), (8, .one (.csl 1000000 1 0 1))] [] (.block (.loop (.succ (.seq (.rg [(1, qp 1000002 0), (8, .one (.csl 1000000 1 0 1)), (9, qj 1), (10, qj 0)] [(1000000, some (.cells [.ptr 1000001 1])), (1000001, some (.cells (Command.cells a0))), (1000002, some (.cells [.fn 85 W2])), (1000003, some (.cells [ls a1])), (1000004, some (.cells [lj a2]))] (.rd 1 [(11, qb true)] [] (.thenN (.seq (.ct (.skip (.thenN (.seq (.block (.sr 3 W121 [] (.st 1 [(15, .one (.fn 85 W2))] [] (.bn ⟨some 16, .gcallv false false W6 [] 15 [], none, []⟩ (fun r1 => (W36 r1)) (fun r1 => [(1000003, some (.cells [ls a1])), (1000004, some (.cells [lj r1.2.2]))]) (fun r1 hr => pe (gv (ks := [1000003, 1000004]) (ARGS := W33) (caps := W2) (F85s0_ok _ _ _ _ hr))) (fun r1 => ?_)))))))))))))))))))
 refine SimI.rd 5 (W5 r1) [] (.thenN (.seq (.sr 2 (W21 r1) [] (.cd _ ?_ ?_))))
 ·exact Sim.sr 2 (W37 r1) [] (.ret (.thenR (.blockR (.thenR (.loopR (.blockR (.thenR .fn)))))))
 ·exact Sim.skip (.thenN (.region0 (.rd 6 (W60 r1) [(1000001, some (.cells [lj a0.Kind, lj (imin (imax r1.1 (-1000001)) 1000001), lj a0.Which, lj a0.To, lj a0.At.X, lj a0.At.Y, lj a0.F.a0.N, ls a0.F.a0.Text, lj a0.F.a1.N, ls a0.F.a1.Text, lj a0.F.a2.N, ls a0.F.a2.Text, lj a0.F.a3.N, ls a0.F.a3.Text, lj a0.Value.N, ls a0.Value.Text, lj a0.Client, lj a0.Session, lj a0.Rect.X0, lj a0.Rect.Y0, lj a0.Rect.X1, lj a0.Rect.Y1]))] (.blockN (.thenN (.region0 (.rd 2 [(10, qj 1), (27, qj 1)] [] (.loopN (.succ (.seq (.rg [(1, qp 1000002 0), (8, .one (.csl 1000000 1 0 1)), (9, qj 1), (10, qj 1)] [(1000000, some (.cells [.ptr 1000001 1])), (1000001, some (.cells [lj a0.Kind, lj (imin (imax r1.1 (-1000001)) 1000001), lj a0.Which, lj a0.To, lj a0.At.X, lj a0.At.Y, lj a0.F.a0.N, ls a0.F.a0.Text, lj a0.F.a1.N, ls a0.F.a1.Text, lj a0.F.a2.N, ls a0.F.a2.Text, lj a0.F.a3.N, ls a0.F.a3.Text, lj a0.Value.N, ls a0.Value.Text, lj a0.Client, lj a0.Session, lj a0.Rect.X0, lj a0.Rect.Y0, lj a0.Rect.X1, lj a0.Rect.Y1])), (1000002, some (.cells [.fn 85 W2])), (1000003, some (.cells [ls a1])), (1000004, some (.cells [lj r1.2.2]))] (.rd 1 [(11, qb false)] [] (.thenN (.seq (.cf (.exit (.thenX (.loopX (.blockX (.thenN (.sr 1 [(3, qj 0)] [] (.ret .fn))))))))))))))))))))))
def F87s4_e (a0 : Command) (a1 : ByteArray) (a2 : Int) : (Int × Command × Int) → PV × List Ob := fun r => (.one (li .i64 r.1), [.cells [.ptr 1000001 1, .ptr 1000001 2], .cells (Command.cells r.2.1), .cells [.fn 85 [.ptr 1000003 0, .ptr 1000004 0]], .cells [ls a1], .cells [li .i64 r.2.2]])
def F87s4 (n : Nat) (a0 : Command) (a1 : ByteArray) (a2 : Int) : Option (Int × Command × Int) :=
 (F85s0 n a1 a2).bind fun (r1 : (Int × Int × Int)) =>
 if r1.2.1 != 0 then
  some (r1.2.1, a0, r1.2.2)
 else
  (F85s0 n a1 r1.2.2).bind fun (r2 : (Int × Int × Int)) =>
  if r2.2.1 != 0 then
   some (r2.2.1, (Command.mk a0.Kind (imin (imax r1.1 (-1000001)) 1000001) a0.Which a0.To a0.At a0.F a0.Value a0.Client a0.Session a0.Rect), r2.2.2)
  else
   some (0, (Command.mk a0.Kind (imin (imax r1.1 (-1000001)) 1000001) (imin (imax r2.1 (-1000001)) 1000001) a0.To a0.At a0.F a0.Value a0.Client a0.Session a0.Rect), r2.2.2)
theorem F87s4_ok (n : Nat) (a0 : Command) (a1 : ByteArray) (a2 : Int) : ∀ r, F87s4 n a0 a1 a2 = some r → D 87 [.one (.csl 1000000 1 0 2), .one (.ptr 1000002 0)] [.cells [.ptr 1000001 1, .ptr 1000001 2], .cells (Command.cells a0), .cells [.fn 85 [.ptr 1000003 0, .ptr 1000004 0]], .cells [ls a1], .cells [li .i64 a2]] = some ((F87s4_e a0 a1 a2) r) := by
 refine fn_to (D := D) (n := n + 8) (nt := 28) (rs := pc87_r) (c := p87c32) (L := W133) (M := [(1000000, some (.cells W135)), (1000001, some (.cells (Command.cells a0))), (1000002, some (.cells [.fn 85 W2])), (1000003, some (.cells [ls a1])), (1000004, some (.cells [lj a2]))]) (k := 5) rfl rfl rfl rfl rfl rfl rfl ?_
 unfold F87s4
 refine Sim.sr 1 [(3, qj 0)] [] (.seq (.sr 3 W122 [] (.block (.loop (.succ (.seq (.rg W94 [(1000000, some (.cells W135)), (1000001, some (.cells (Command.cells a0))), (1000002, some (.cells [.fn 85 W2])), (1000003, some (.cells [ls a1])), (1000004, some (.cells [lj a2]))] (.rd 1 [(11, qb true)] [] (.thenN (.seq (.ct (.skip (.thenN (.seq (.block (.sr 3 W121 [] (.st 1 [(15, .one (.fn 85 W2))] [] (.bn ⟨some 16, .gcallv false false W6 [] 15 [], none, []⟩ (fun r1 => (W36 r1)) (fun r1 => [(1000003, some (.cells [ls a1])), (1000004, some (.cells [lj r1.2.2]))]) (fun r1 hr => pe (gv (ks := [1000003, 1000004]) (ARGS := W33) (caps := W2) (F85s0_ok _ _ _ _ hr))) (fun r1 => ?_)))))))))))))))))))
 refine SimI.rd 5 (W5 r1) [] (.thenN (.seq (.sr 2 (W21 r1) [] (.cd _ ?_ ?_))))
 ·exact Sim.sr 2 (W37 r1) [] (.ret (.thenR (.blockR (.thenR (.loopR (.blockR (.thenR .fn)))))))
 ·refine Sim.skip (.thenN (.region0 (.rd 6 (W60 r1) [(1000001, some (.cells [lj a0.Kind, lj (imin (imax r1.1 (-1000001)) 1000001), lj a0.Which, lj a0.To, lj a0.At.X, lj a0.At.Y, lj a0.F.a0.N, ls a0.F.a0.Text, lj a0.F.a1.N, ls a0.F.a1.Text, lj a0.F.a2.N, ls a0.F.a2.Text, lj a0.F.a3.N, ls a0.F.a3.Text, lj a0.Value.N, ls a0.Value.Text, lj a0.Client, lj a0.Session, lj a0.Rect.X0, lj a0.Rect.Y0, lj a0.Rect.X1, lj a0.Rect.Y1]))] (.blockN (.thenN (.region0 (.rd 2 [(10, qj 1), (27, qj 1)] [] (.loopN (.succ (.seq (.rg W95 [(1000000, some (.cells W135)), (1000001, some (.cells [lj a0.Kind, lj (imin (imax r1.1 (-1000001)) 1000001), lj a0.Which, lj a0.To, lj a0.At.X, lj a0.At.Y, lj a0.F.a0.N, ls a0.F.a0.Text, lj a0.F.a1.N, ls a0.F.a1.Text, lj a0.F.a2.N, ls a0.F.a2.Text, lj a0.F.a3.N, ls a0.F.a3.Text, lj a0.Value.N, ls a0.Value.Text, lj a0.Client, lj a0.Session, lj a0.Rect.X0, lj a0.Rect.Y0, lj a0.Rect.X1, lj a0.Rect.Y1])), (1000002, some (.cells [.fn 85 W2])), (1000003, some (.cells [ls a1])), (1000004, some (.cells [lj r1.2.2]))] (.rd 1 [(11, qb true)] [] (.thenN (.seq (.ct (.skip (.thenN (.seq (.block (.sr 3 [(5, qp 1000001 2), (13, qp 1000001 2), (12, qp 1000000 1)] [] (.st 1 [(15, .one (.fn 85 W2))] [] (.bn ⟨some 16, .gcallv false false W6 [] 15 [], none, []⟩ (fun r2 => (W36 r2)) (fun r2 => [(1000003, some (.cells [ls a1])), (1000004, some (.cells [lj r2.2.2]))]) (fun r2 hr => pe (gv (ks := [1000003, 1000004]) (ARGS := W33) (caps := W2) (F85s0_ok _ _ _ _ hr))) (fun r2 => ?_)))))))))))))))))))))))
  refine SimI.rd 5 (W5 r2) [] (.thenN (.seq (.sr 2 (W21 r2) [] (.cd _ ?_ ?_))))
  ·exact Sim.sr 2 (W37 r2) [] (.ret (.thenR (.blockR (.thenR (.loopR (.blockR (.thenR .fn)))))))
  ·exact Sim.skip (.thenN (.region0 (.rd 6 (W128 r2) [(1000001, some (.cells [lj a0.Kind, lj (imin (imax r1.1 (-1000001)) 1000001), lj (imin (imax r2.1 (-1000001)) 1000001), lj a0.To, lj a0.At.X, lj a0.At.Y, lj a0.F.a0.N, ls a0.F.a0.Text, lj a0.F.a1.N, ls a0.F.a1.Text, lj a0.F.a2.N, ls a0.F.a2.Text, lj a0.F.a3.N, ls a0.F.a3.Text, lj a0.Value.N, ls a0.Value.Text, lj a0.Client, lj a0.Session, lj a0.Rect.X0, lj a0.Rect.Y0, lj a0.Rect.X1, lj a0.Rect.Y1]))] (.blockN (.thenN (.region0 (.rd 2 [(10, qj 2), (27, qj 2)] [] (.loopN (.succ (.seq (.rg W96 [(1000000, some (.cells W135)), (1000001, some (.cells [lj a0.Kind, lj (imin (imax r1.1 (-1000001)) 1000001), lj (imin (imax r2.1 (-1000001)) 1000001), lj a0.To, lj a0.At.X, lj a0.At.Y, lj a0.F.a0.N, ls a0.F.a0.Text, lj a0.F.a1.N, ls a0.F.a1.Text, lj a0.F.a2.N, ls a0.F.a2.Text, lj a0.F.a3.N, ls a0.F.a3.Text, lj a0.Value.N, ls a0.Value.Text, lj a0.Client, lj a0.Session, lj a0.Rect.X0, lj a0.Rect.Y0, lj a0.Rect.X1, lj a0.Rect.Y1])), (1000002, some (.cells [.fn 85 W2])), (1000003, some (.cells [ls a1])), (1000004, some (.cells [lj r2.2.2]))] (.rd 1 [(11, qb false)] [] (.thenN (.seq (.cf (.exit (.thenX (.loopX (.blockX (.thenN (.sr 1 [(3, qj 0)] [] (.ret .fn))))))))))))))))))))))
def F87s5_e (a0 : Command) (a1 : ByteArray) (a2 : Int) : (Int × Command × Int) → PV × List Ob := fun r => (.one (li .i64 r.1), [.cells [.ptr 1000001 1, .ptr 1000001 4, .ptr 1000001 5], .cells (Command.cells r.2.1), .cells [.fn 85 [.ptr 1000003 0, .ptr 1000004 0]], .cells [ls a1], .cells [li .i64 r.2.2]])
def F87s5 (n : Nat) (a0 : Command) (a1 : ByteArray) (a2 : Int) : Option (Int × Command × Int) :=
 (F85s0 n a1 a2).bind fun (r1 : (Int × Int × Int)) =>
 if r1.2.1 != 0 then
  some (r1.2.1, a0, r1.2.2)
 else
  (F85s0 n a1 r1.2.2).bind fun (r2 : (Int × Int × Int)) =>
  if r2.2.1 != 0 then
   some (r2.2.1, (Command.mk a0.Kind (imin (imax r1.1 (-1000001)) 1000001) a0.Which a0.To a0.At a0.F a0.Value a0.Client a0.Session a0.Rect), r2.2.2)
  else
   (F85s0 n a1 r2.2.2).bind fun (r3 : (Int × Int × Int)) =>
   if r3.2.1 != 0 then
    some (r3.2.1, (Command.mk a0.Kind (imin (imax r1.1 (-1000001)) 1000001) a0.Which a0.To (Point.mk (imin (imax r2.1 (-1000001)) 1000001) a0.At.Y) a0.F a0.Value a0.Client a0.Session a0.Rect), r3.2.2)
   else
    some (0, (Command.mk a0.Kind (imin (imax r1.1 (-1000001)) 1000001) a0.Which a0.To (Point.mk (imin (imax r2.1 (-1000001)) 1000001) (imin (imax r3.1 (-1000001)) 1000001)) a0.F a0.Value a0.Client a0.Session a0.Rect), r3.2.2)
theorem F87s5_ok (n : Nat) (a0 : Command) (a1 : ByteArray) (a2 : Int) : ∀ r, F87s5 n a0 a1 a2 = some r → D 87 [.one (.csl 1000000 1 0 3), .one (.ptr 1000002 0)] [.cells [.ptr 1000001 1, .ptr 1000001 4, .ptr 1000001 5], .cells (Command.cells a0), .cells [.fn 85 [.ptr 1000003 0, .ptr 1000004 0]], .cells [ls a1], .cells [li .i64 a2]] = some ((F87s5_e a0 a1 a2) r) := by
 refine fn_to (D := D) (n := n + 8) (nt := 28) (rs := pc87_r) (c := p87c32) (L := [(0, .one (.csl 1000000 1 0 3)), (1, qp 1000002 0)]) (M := [(1000000, some (.cells W74)), (1000001, some (.cells (Command.cells a0))), (1000002, some (.cells [.fn 85 W2])), (1000003, some (.cells [ls a1])), (1000004, some (.cells [lj a2]))]) (k := 5) rfl rfl rfl rfl rfl rfl rfl ?_
 unfold F87s5
 refine Sim.sr 1 [(3, qj 0)] [] (.seq (.sr 3 [(10, qj 0), (9, qj 3), (8, .one (.csl 1000000 1 0 3))] [] (.block (.loop (.succ (.seq (.rg W159 [(1000000, some (.cells W74)), (1000001, some (.cells (Command.cells a0))), (1000002, some (.cells [.fn 85 W2])), (1000003, some (.cells [ls a1])), (1000004, some (.cells [lj a2]))] (.rd 1 [(11, qb true)] [] (.thenN (.seq (.ct (.skip (.thenN (.seq (.block (.sr 3 W121 [] (.st 1 [(15, .one (.fn 85 W2))] [] (.bn ⟨some 16, .gcallv false false W6 [] 15 [], none, []⟩ (fun r1 => (W36 r1)) (fun r1 => [(1000003, some (.cells [ls a1])), (1000004, some (.cells [lj r1.2.2]))]) (fun r1 hr => pe (gv (ks := [1000003, 1000004]) (ARGS := W33) (caps := W2) (F85s0_ok _ _ _ _ hr))) (fun r1 => ?_)))))))))))))))))))
 refine SimI.rd 5 (W5 r1) [] (.thenN (.seq (.sr 2 (W21 r1) [] (.cd _ ?_ ?_))))
 ·exact Sim.sr 2 (W37 r1) [] (.ret (.thenR (.blockR (.thenR (.loopR (.blockR (.thenR .fn)))))))
 ·refine Sim.skip (.thenN (.region0 (.rd 6 (W60 r1) [(1000001, some (.cells [lj a0.Kind, lj (imin (imax r1.1 (-1000001)) 1000001), lj a0.Which, lj a0.To, lj a0.At.X, lj a0.At.Y, lj a0.F.a0.N, ls a0.F.a0.Text, lj a0.F.a1.N, ls a0.F.a1.Text, lj a0.F.a2.N, ls a0.F.a2.Text, lj a0.F.a3.N, ls a0.F.a3.Text, lj a0.Value.N, ls a0.Value.Text, lj a0.Client, lj a0.Session, lj a0.Rect.X0, lj a0.Rect.Y0, lj a0.Rect.X1, lj a0.Rect.Y1]))] (.blockN (.thenN (.region0 (.rd 2 [(10, qj 1), (27, qj 1)] [] (.loopN (.succ (.seq (.rg W160 [(1000000, some (.cells W74)), (1000001, some (.cells [lj a0.Kind, lj (imin (imax r1.1 (-1000001)) 1000001), lj a0.Which, lj a0.To, lj a0.At.X, lj a0.At.Y, lj a0.F.a0.N, ls a0.F.a0.Text, lj a0.F.a1.N, ls a0.F.a1.Text, lj a0.F.a2.N, ls a0.F.a2.Text, lj a0.F.a3.N, ls a0.F.a3.Text, lj a0.Value.N, ls a0.Value.Text, lj a0.Client, lj a0.Session, lj a0.Rect.X0, lj a0.Rect.Y0, lj a0.Rect.X1, lj a0.Rect.Y1])), (1000002, some (.cells [.fn 85 W2])), (1000003, some (.cells [ls a1])), (1000004, some (.cells [lj r1.2.2]))] (.rd 1 [(11, qb true)] [] (.thenN (.seq (.ct (.skip (.thenN (.seq (.block (.sr 3 [(5, qp 1000001 4), (13, qp 1000001 4), (12, qp 1000000 1)] [] (.st 1 [(15, .one (.fn 85 W2))] [] (.bn ⟨some 16, .gcallv false false W6 [] 15 [], none, []⟩ (fun r2 => (W36 r2)) (fun r2 => [(1000003, some (.cells [ls a1])), (1000004, some (.cells [lj r2.2.2]))]) (fun r2 hr => pe (gv (ks := [1000003, 1000004]) (ARGS := W33) (caps := W2) (F85s0_ok _ _ _ _ hr))) (fun r2 => ?_)))))))))))))))))))))))
  refine SimI.rd 5 (W5 r2) [] (.thenN (.seq (.sr 2 (W21 r2) [] (.cd _ ?_ ?_))))
  ·exact Sim.sr 2 (W37 r2) [] (.ret (.thenR (.blockR (.thenR (.loopR (.blockR (.thenR .fn)))))))
  ·refine Sim.skip (.thenN (.region0 (.rd 6 (W129 r2) [(1000001, some (.cells [lj a0.Kind, lj (imin (imax r1.1 (-1000001)) 1000001), lj a0.Which, lj a0.To, lj (imin (imax r2.1 (-1000001)) 1000001), lj a0.At.Y, lj a0.F.a0.N, ls a0.F.a0.Text, lj a0.F.a1.N, ls a0.F.a1.Text, lj a0.F.a2.N, ls a0.F.a2.Text, lj a0.F.a3.N, ls a0.F.a3.Text, lj a0.Value.N, ls a0.Value.Text, lj a0.Client, lj a0.Session, lj a0.Rect.X0, lj a0.Rect.Y0, lj a0.Rect.X1, lj a0.Rect.Y1]))] (.blockN (.thenN (.region0 (.rd 2 [(10, qj 2), (27, qj 2)] [] (.loopN (.succ (.seq (.rg W161 [(1000000, some (.cells W74)), (1000001, some (.cells [lj a0.Kind, lj (imin (imax r1.1 (-1000001)) 1000001), lj a0.Which, lj a0.To, lj (imin (imax r2.1 (-1000001)) 1000001), lj a0.At.Y, lj a0.F.a0.N, ls a0.F.a0.Text, lj a0.F.a1.N, ls a0.F.a1.Text, lj a0.F.a2.N, ls a0.F.a2.Text, lj a0.F.a3.N, ls a0.F.a3.Text, lj a0.Value.N, ls a0.Value.Text, lj a0.Client, lj a0.Session, lj a0.Rect.X0, lj a0.Rect.Y0, lj a0.Rect.X1, lj a0.Rect.Y1])), (1000002, some (.cells [.fn 85 W2])), (1000003, some (.cells [ls a1])), (1000004, some (.cells [lj r2.2.2]))] (.rd 1 [(11, qb true)] [] (.thenN (.seq (.ct (.skip (.thenN (.seq (.block (.sr 3 [(5, qp 1000001 5), (13, qp 1000001 5), (12, qp 1000000 2)] [] (.st 1 [(15, .one (.fn 85 W2))] [] (.bn ⟨some 16, .gcallv false false W6 [] 15 [], none, []⟩ (fun r3 => (W36 r3)) (fun r3 => [(1000003, some (.cells [ls a1])), (1000004, some (.cells [lj r3.2.2]))]) (fun r3 hr => pe (gv (ks := [1000003, 1000004]) (ARGS := W33) (caps := W2) (F85s0_ok _ _ _ _ hr))) (fun r3 => ?_)))))))))))))))))))))))
   refine SimI.rd 5 (W5 r3) [] (.thenN (.seq (.sr 2 (W21 r3) [] (.cd _ ?_ ?_))))
   ·exact Sim.sr 2 (W37 r3) [] (.ret (.thenR (.blockR (.thenR (.loopR (.blockR (.thenR .fn)))))))
   ·exact Sim.skip (.thenN (.region0 (.rd 6 (W130 r3) [(1000001, some (.cells [lj a0.Kind, lj (imin (imax r1.1 (-1000001)) 1000001), lj a0.Which, lj a0.To, lj (imin (imax r2.1 (-1000001)) 1000001), lj (imin (imax r3.1 (-1000001)) 1000001), lj a0.F.a0.N, ls a0.F.a0.Text, lj a0.F.a1.N, ls a0.F.a1.Text, lj a0.F.a2.N, ls a0.F.a2.Text, lj a0.F.a3.N, ls a0.F.a3.Text, lj a0.Value.N, ls a0.Value.Text, lj a0.Client, lj a0.Session, lj a0.Rect.X0, lj a0.Rect.Y0, lj a0.Rect.X1, lj a0.Rect.Y1]))] (.blockN (.thenN (.region0 (.rd 2 [(10, qj 3), (27, qj 3)] [] (.loopN (.succ (.seq (.rg W162 [(1000000, some (.cells W74)), (1000001, some (.cells [lj a0.Kind, lj (imin (imax r1.1 (-1000001)) 1000001), lj a0.Which, lj a0.To, lj (imin (imax r2.1 (-1000001)) 1000001), lj (imin (imax r3.1 (-1000001)) 1000001), lj a0.F.a0.N, ls a0.F.a0.Text, lj a0.F.a1.N, ls a0.F.a1.Text, lj a0.F.a2.N, ls a0.F.a2.Text, lj a0.F.a3.N, ls a0.F.a3.Text, lj a0.Value.N, ls a0.Value.Text, lj a0.Client, lj a0.Session, lj a0.Rect.X0, lj a0.Rect.Y0, lj a0.Rect.X1, lj a0.Rect.Y1])), (1000002, some (.cells [.fn 85 W2])), (1000003, some (.cells [ls a1])), (1000004, some (.cells [lj r3.2.2]))] (.rd 1 [(11, qb false)] [] (.thenN (.seq (.cf (.exit (.thenX (.loopX (.blockX (.thenN (.sr 1 [(3, qj 0)] [] (.ret .fn))))))))))))))))))))))
def F87s6_e (a0 : Command) (a1 : ByteArray) (a2 : Int) : (Int × Command × Int) → PV × List Ob := fun r => (.one (li .i64 r.1), [.cells [.ptr 1000001 4, .ptr 1000001 5], .cells (Command.cells r.2.1), .cells [.fn 85 [.ptr 1000003 0, .ptr 1000004 0]], .cells [ls a1], .cells [li .i64 r.2.2]])
def F87s6 (n : Nat) (a0 : Command) (a1 : ByteArray) (a2 : Int) : Option (Int × Command × Int) :=
 (F85s0 n a1 a2).bind fun (r1 : (Int × Int × Int)) =>
 if r1.2.1 != 0 then
  some (r1.2.1, a0, r1.2.2)
 else
  (F85s0 n a1 r1.2.2).bind fun (r2 : (Int × Int × Int)) =>
  if r2.2.1 != 0 then
   some (r2.2.1, (Command.mk a0.Kind a0.ID a0.Which a0.To (Point.mk (imin (imax r1.1 (-1000001)) 1000001) a0.At.Y) a0.F a0.Value a0.Client a0.Session a0.Rect), r2.2.2)
  else
   some (0, (Command.mk a0.Kind a0.ID a0.Which a0.To (Point.mk (imin (imax r1.1 (-1000001)) 1000001) (imin (imax r2.1 (-1000001)) 1000001)) a0.F a0.Value a0.Client a0.Session a0.Rect), r2.2.2)
theorem F87s6_ok (n : Nat) (a0 : Command) (a1 : ByteArray) (a2 : Int) : ∀ r, F87s6 n a0 a1 a2 = some r → D 87 [.one (.csl 1000000 1 0 2), .one (.ptr 1000002 0)] [.cells [.ptr 1000001 4, .ptr 1000001 5], .cells (Command.cells a0), .cells [.fn 85 [.ptr 1000003 0, .ptr 1000004 0]], .cells [ls a1], .cells [li .i64 a2]] = some ((F87s6_e a0 a1 a2) r) := by
 refine fn_to (D := D) (n := n + 8) (nt := 28) (rs := pc87_r) (c := p87c32) (L := W133) (M := [(1000000, some (.cells W136)), (1000001, some (.cells (Command.cells a0))), (1000002, some (.cells [.fn 85 W2])), (1000003, some (.cells [ls a1])), (1000004, some (.cells [lj a2]))]) (k := 5) rfl rfl rfl rfl rfl rfl rfl ?_
 unfold F87s6
 refine Sim.sr 1 [(3, qj 0)] [] (.seq (.sr 3 W122 [] (.block (.loop (.succ (.seq (.rg W94 [(1000000, some (.cells W136)), (1000001, some (.cells (Command.cells a0))), (1000002, some (.cells [.fn 85 W2])), (1000003, some (.cells [ls a1])), (1000004, some (.cells [lj a2]))] (.rd 1 [(11, qb true)] [] (.thenN (.seq (.ct (.skip (.thenN (.seq (.block (.sr 3 [(5, qp 1000001 4), (13, qp 1000001 4), (12, qp 1000000 0)] [] (.st 1 [(15, .one (.fn 85 W2))] [] (.bn ⟨some 16, .gcallv false false W6 [] 15 [], none, []⟩ (fun r1 => (W36 r1)) (fun r1 => [(1000003, some (.cells [ls a1])), (1000004, some (.cells [lj r1.2.2]))]) (fun r1 hr => pe (gv (ks := [1000003, 1000004]) (ARGS := W33) (caps := W2) (F85s0_ok _ _ _ _ hr))) (fun r1 => ?_)))))))))))))))))))
 refine SimI.rd 5 (W5 r1) [] (.thenN (.seq (.sr 2 (W21 r1) [] (.cd _ ?_ ?_))))
 ·exact Sim.sr 2 (W37 r1) [] (.ret (.thenR (.blockR (.thenR (.loopR (.blockR (.thenR .fn)))))))
 ·refine Sim.skip (.thenN (.region0 (.rd 6 (W129 r1) [(1000001, some (.cells [lj a0.Kind, lj a0.ID, lj a0.Which, lj a0.To, lj (imin (imax r1.1 (-1000001)) 1000001), lj a0.At.Y, lj a0.F.a0.N, ls a0.F.a0.Text, lj a0.F.a1.N, ls a0.F.a1.Text, lj a0.F.a2.N, ls a0.F.a2.Text, lj a0.F.a3.N, ls a0.F.a3.Text, lj a0.Value.N, ls a0.Value.Text, lj a0.Client, lj a0.Session, lj a0.Rect.X0, lj a0.Rect.Y0, lj a0.Rect.X1, lj a0.Rect.Y1]))] (.blockN (.thenN (.region0 (.rd 2 [(10, qj 1), (27, qj 1)] [] (.loopN (.succ (.seq (.rg W95 [(1000000, some (.cells W136)), (1000001, some (.cells [lj a0.Kind, lj a0.ID, lj a0.Which, lj a0.To, lj (imin (imax r1.1 (-1000001)) 1000001), lj a0.At.Y, lj a0.F.a0.N, ls a0.F.a0.Text, lj a0.F.a1.N, ls a0.F.a1.Text, lj a0.F.a2.N, ls a0.F.a2.Text, lj a0.F.a3.N, ls a0.F.a3.Text, lj a0.Value.N, ls a0.Value.Text, lj a0.Client, lj a0.Session, lj a0.Rect.X0, lj a0.Rect.Y0, lj a0.Rect.X1, lj a0.Rect.Y1])), (1000002, some (.cells [.fn 85 W2])), (1000003, some (.cells [ls a1])), (1000004, some (.cells [lj r1.2.2]))] (.rd 1 [(11, qb true)] [] (.thenN (.seq (.ct (.skip (.thenN (.seq (.block (.sr 3 [(5, qp 1000001 5), (13, qp 1000001 5), (12, qp 1000000 1)] [] (.st 1 [(15, .one (.fn 85 W2))] [] (.bn ⟨some 16, .gcallv false false W6 [] 15 [], none, []⟩ (fun r2 => (W36 r2)) (fun r2 => [(1000003, some (.cells [ls a1])), (1000004, some (.cells [lj r2.2.2]))]) (fun r2 hr => pe (gv (ks := [1000003, 1000004]) (ARGS := W33) (caps := W2) (F85s0_ok _ _ _ _ hr))) (fun r2 => ?_)))))))))))))))))))))))
  refine SimI.rd 5 (W5 r2) [] (.thenN (.seq (.sr 2 (W21 r2) [] (.cd _ ?_ ?_))))
  ·exact Sim.sr 2 (W37 r2) [] (.ret (.thenR (.blockR (.thenR (.loopR (.blockR (.thenR .fn)))))))
  ·exact Sim.skip (.thenN (.region0 (.rd 6 (W130 r2) [(1000001, some (.cells [lj a0.Kind, lj a0.ID, lj a0.Which, lj a0.To, lj (imin (imax r1.1 (-1000001)) 1000001), lj (imin (imax r2.1 (-1000001)) 1000001), lj a0.F.a0.N, ls a0.F.a0.Text, lj a0.F.a1.N, ls a0.F.a1.Text, lj a0.F.a2.N, ls a0.F.a2.Text, lj a0.F.a3.N, ls a0.F.a3.Text, lj a0.Value.N, ls a0.Value.Text, lj a0.Client, lj a0.Session, lj a0.Rect.X0, lj a0.Rect.Y0, lj a0.Rect.X1, lj a0.Rect.Y1]))] (.blockN (.thenN (.region0 (.rd 2 [(10, qj 2), (27, qj 2)] [] (.loopN (.succ (.seq (.rg W96 [(1000000, some (.cells W136)), (1000001, some (.cells [lj a0.Kind, lj a0.ID, lj a0.Which, lj a0.To, lj (imin (imax r1.1 (-1000001)) 1000001), lj (imin (imax r2.1 (-1000001)) 1000001), lj a0.F.a0.N, ls a0.F.a0.Text, lj a0.F.a1.N, ls a0.F.a1.Text, lj a0.F.a2.N, ls a0.F.a2.Text, lj a0.F.a3.N, ls a0.F.a3.Text, lj a0.Value.N, ls a0.Value.Text, lj a0.Client, lj a0.Session, lj a0.Rect.X0, lj a0.Rect.Y0, lj a0.Rect.X1, lj a0.Rect.Y1])), (1000002, some (.cells [.fn 85 W2])), (1000003, some (.cells [ls a1])), (1000004, some (.cells [lj r2.2.2]))] (.rd 1 [(11, qb false)] [] (.thenN (.seq (.cf (.exit (.thenX (.loopX (.blockX (.thenN (.sr 1 [(3, qj 0)] [] (.ret .fn))))))))))))))))))))))
def F87s7_e (a0 : ByteArray) (a1 : Int) : Unit → PV × List Ob := fun r => (.one (li .i64 0), [.cells [.fn 85 [.ptr 1000001 0, .ptr 1000002 0]], .cells [ls a0], .cells [li .i64 a1]])
def F87s7_l1 (n : Nat) : Nat → Option Unit
 | 0 => none
 | m + 1 =>
  some ()
theorem F87s7_l1_ok (n : Nat) (a0 : ByteArray) (a1 : Int) : ∀ (m : Nat), SimL Try.prog D (n + 8) m p87c24 [(1, qp 1000000 0), (8, .one (.view 1 0 fun _ => [])), (9, qj 0), (10, qj 0)] [(1000000, some (.cells W113)), (1000001, some (.cells [ls a0])), (1000002, some (.cells [lj a1]))] (F87s7_l1 n m) (QB 0 (QT Try.prog D (n + 8) p87c30 (QF false pc87_r 3 (F87s7_e a0 a1)))) := by
 intro m_l1
 induction m_l1 with
 | zero => exact SimL.zero' rfl
 | succ m_l1 ih_l1 =>
  refine SimL.succ ?_
  unfold F87s7_l1
  exact Sim.seq (.rg [(1, qp 1000000 0), (8, .one (.view 1 0 fun _ => [])), (9, qj 0), (10, qj 0)] [(1000000, some (.cells W113)), (1000001, some (.cells [ls a0])), (1000002, some (.cells [lj a1]))] (.rd 1 [(11, qb false)] [] (.thenN (.seq (.cf (.exit (.thenX (.loopX (.blockX (.thenN (.sr 1 [(3, qj 0)] [] (.ret .fn))))))))))))
def F87s7 (n : Nat) (a0 : ByteArray) (a1 : Int) : Option Unit :=
 F87s7_l1 n (n + 8)
theorem F87s7_ok (n : Nat) (a0 : ByteArray) (a1 : Int) : ∀ r, F87s7 n a0 a1 = some r → D 87 [.one (.view 1 0 fun _ => []), .one (.ptr 1000000 0)] [.cells [.fn 85 [.ptr 1000001 0, .ptr 1000002 0]], .cells [ls a0], .cells [li .i64 a1]] = some ((F87s7_e a0 a1) r) := by
 refine fn_to (D := D) (n := n + 8) (nt := 28) (rs := pc87_r) (c := p87c32) (L := [(0, .one (.view 1 0 fun _ => [])), (1, qp 1000000 0)]) (M := [(1000000, some (.cells W113)), (1000001, some (.cells [ls a0])), (1000002, some (.cells [lj a1]))]) (k := 3) rfl rfl rfl rfl rfl rfl rfl ?_
 unfold F87s7
 refine Sim.sr 1 [(3, qj 0)] [] (.seq (.sr 3 [(10, qj 0), (9, qj 0), (8, .one (.view 1 0 fun _ => []))] [] (.block (.loop (.pr [1, 8, 9, 10] [1000000, 1000001, 1000002, 1000003, 1000004] [] [(1, qp 1000000 0), (8, .one (.view 1 0 fun _ => [])), (9, qj 0), (10, qj 0)] [(1000000, some (.cells W113)), (1000001, some (.cells [ls a0])), (1000002, some (.cells [lj a1]))] ?_)))))
 exact F87s7_l1_ok n a0 a1 (n + 8)
def F72_e : (Command × Int × Int) → PV × List Ob := fun r => (.tup [.agg (Command.cells r.1), .one (li .i64 r.2.1), .one (li .i64 r.2.2)], [])
def F72_j47 (n : Nat) (a0 : ByteArray) (g45 : Command) (i46 : Int) : Option (Command × Int × Int) :=
  (F21 n g45).bind fun (r48 : (ByteArray × Int)) =>
  if r48.2 != 0 then
   some ((Command.mk 0 0 0 0 (Point.mk 0 0) (A4.mk (Field.mk 0 ByteArray.empty) (Field.mk 0 ByteArray.empty) (Field.mk 0 ByteArray.empty) (Field.mk 0 ByteArray.empty)) (Field.mk 0 ByteArray.empty) 0 0 (Rect.mk 0 0 0 0)), 0, 11)
  else
   if 0 ≤ (i46 : Int) ∧ (i46 : Int) ≤ (a0.size : Int) then
    if !(r48.1.toList == (a0.extract 0 i46.toNat).toList) then
     some ((Command.mk 0 0 0 0 (Point.mk 0 0) (A4.mk (Field.mk 0 ByteArray.empty) (Field.mk 0 ByteArray.empty) (Field.mk 0 ByteArray.empty) (Field.mk 0 ByteArray.empty)) (Field.mk 0 ByteArray.empty) 0 0 (Rect.mk 0 0 0 0)), 0, 11)
    else
     some (g45, i46, 0)
   else none
theorem F72_j47_ok (n : Nat) (a0 : ByteArray) (g45 : Command) (i46 : Int) : Sim Try.prog D (n + 8) p72c70 W92 (W57 a0 g45 i46) (F72_j47 n a0 g45 i46) (QF false pc72_r 0 F72_e) := by
  unfold F72_j47
  refine Sim.seq (.seq (.rs (.rn 1 [(74, .agg (Command.cells g45))] [] (.cl 75 true [[]] 21 [74] none (fun r48 => .tup [qs r48.1, qj r48.2]) [.agg (Command.cells g45)] (F21_ok _ _) (fun r48 => ?_)))))
  refine SimI.rd 5 [(17, qj r48.2), (16, qs r48.1), (77, qj r48.2), (76, qs r48.1), (73, .tup [qs r48.1, qj r48.2])] [] (.thenN (.st 3 (rp [80, 79] (qb (r48.2 != 0)) ++ [(78, qj r48.2)]) [] (.sp 80 _ ?_ ?_)))
  ·exact SimI.rd 6 ([(86, qb true)] ++ rp [85, 84, 83, 82, 81] tz) [] (.thenN (.ct (.sr 4 [(4, qj 11), (3, qj 0), (87, .agg W0)] [(2, some (.cells W0))] (.ret (.thenR .fn)))))
  ·refine SimI.rn 3 [(83, qj i46), (82, qs a0), (81, qs r48.1)] [] (.gp 84 (.slice 9 false true) [82, 83] (some (80, false)) [] (fun hc => pr_cutH (s := a0) (l := .i64) (b := i46) Try.underlying9 hc) (.rd 2 (rp [86, 85] (qb (!(r48.1.toList == (a0.extract 0 i46.toNat).toList)))) [] (.thenN (.cd _ ?_ ?_))))
   ·exact Sim.sr 4 [(4, qj 11), (3, qj 0), (87, .agg W0)] [(2, some (.cells W0))] (.ret (.thenR .fn))
   ·exact Sim.skip (.thenN (.sr 5 [(4, qj 0), (3, qj i46), (89, qj i46), (88, .agg (Command.cells g45))] [(2, some (.cells (Command.cells g45)))] (.ret .fn)))
def F72_j20 (n : Nat) (a0 : ByteArray) (g17 : Command) (i18 i19 : Int) : Option (Command × Int × Int) :=
  if i18 != 0 then
   some ((Command.mk 0 0 0 0 (Point.mk 0 0) (A4.mk (Field.mk 0 ByteArray.empty) (Field.mk 0 ByteArray.empty) (Field.mk 0 ByteArray.empty) (Field.mk 0 ByteArray.empty)) (Field.mk 0 ByteArray.empty) 0 0 (Rect.mk 0 0 0 0)), 0, i18)
  else
   F72_j47 n a0 g17 i19
theorem F72_j20_ok (n : Nat) (a0 : ByteArray) (g17 : Command) (i18 i19 : Int) : Sim Try.prog D (n + 8) p72c45 [(1, qp 1 0), (2, qp 2 0), (5, qp 5 0), (6, qp 6 0), (7, qp 7 0), (15, qj i18), (37, .one (.csl 300000 1 0 1)), (38, qj 1), (39, qj 0)] (W52 a0 g17 i19) (F72_j20 n a0 g17 i18 i19) (QB 1 (QT Try.prog D (n + 8) p72c51 (QL Try.prog D (n + 8) (n + 7) p72c54 (QB 0 (QT Try.prog D (n + 8) p72c70 (QF false pc72_r 0 F72_e)))))) := by
  unfold F72_j20
  refine Sim.seq (.rs (.rd 2 (W147 i18) [] (.thenN (.cd _ ?_ ?_))))
  ·exact Sim.sr 5 (W89 i18) [(2, some (.cells W0))] (.ret (.blockR (.thenR (.loopR (.blockR (.thenR .fn))))))
  ·refine Sim.skip (.blockN (.thenN (.region0 (.rd 2 [(39, qj 1), (72, qj 1)] [] (.loopN (.succ (.seq (.rg [(1, qp 1 0), (2, qp 2 0), (5, qp 5 0), (6, qp 6 0), (7, qp 7 0), (37, .one (.csl 300000 1 0 1)), (38, qj 1), (39, qj 1)] (W52 a0 g17 i19) (.rd 1 [(40, qb false)] [] (.thenN (.seq (.cf (.exit (.thenX (.loopX (.blockX (.thenN (.pr [1, 2, 5, 6] [1, 2, 5, 6, 7, 300000] [] W92 (W57 a0 g17 i19) ?_))))))))))))))))))
   exact F72_j47_ok n a0 g17 i19
def F72_j44 (n : Nat) (a0 : ByteArray) (g41 : Command) (i42 i43 : Int) : Option (Command × Int × Int) :=
  if i42 != 0 then
   some ((Command.mk 0 0 0 0 (Point.mk 0 0) (A4.mk (Field.mk 0 ByteArray.empty) (Field.mk 0 ByteArray.empty) (Field.mk 0 ByteArray.empty) (Field.mk 0 ByteArray.empty)) (Field.mk 0 ByteArray.empty) 0 0 (Rect.mk 0 0 0 0)), 0, i42)
  else
   F72_j47 n a0 g41 i43
theorem F72_j44_ok (n : Nat) (a0 : ByteArray) (g41 : Command) (i42 i43 : Int) : Sim Try.prog D (n + 8) p72c45 [(1, qp 1 0), (2, qp 2 0), (5, qp 5 0), (6, qp 6 0), (7, qp 7 0), (15, qj i42), (37, .one (.csl 300000 1 0 4)), (38, qj 4), (39, qj 3)] (W26 a0 g41 i43) (F72_j44 n a0 g41 i42 i43) (QB 1 (QT Try.prog D (n + 8) p72c51 (QL Try.prog D (n + 8) (n + 4) p72c54 (QB 0 (QT Try.prog D (n + 8) p72c70 (QF false pc72_r 0 F72_e)))))) := by
  unfold F72_j44
  refine Sim.seq (.rs (.rd 2 (W147 i42) [] (.thenN (.cd _ ?_ ?_))))
  ·exact Sim.sr 5 (W89 i42) [(2, some (.cells W0))] (.ret (.blockR (.thenR (.loopR (.blockR (.thenR .fn))))))
  ·refine Sim.skip (.blockN (.thenN (.region0 (.rd 2 [(39, qj 4), (72, qj 4)] [] (.loopN (.succ (.seq (.rg [(1, qp 1 0), (2, qp 2 0), (5, qp 5 0), (6, qp 6 0), (7, qp 7 0), (37, .one (.csl 300000 1 0 4)), (38, qj 4), (39, qj 4)] (W26 a0 g41 i43) (.rd 1 [(40, qb false)] [] (.thenN (.seq (.cf (.exit (.thenX (.loopX (.blockX (.thenN (.pr [1, 2, 5, 6] [1, 2, 5, 6, 7, 300000] [] W92 (W57 a0 g41 i43) ?_))))))))))))))))))
   exact F72_j47_ok n a0 g41 i43
def F72_j38 (n : Nat) (a0 : ByteArray) (g35 : Command) (i36 i37 : Int) : Option (Command × Int × Int) :=
  if i36 != 0 then
   some ((Command.mk 0 0 0 0 (Point.mk 0 0) (A4.mk (Field.mk 0 ByteArray.empty) (Field.mk 0 ByteArray.empty) (Field.mk 0 ByteArray.empty) (Field.mk 0 ByteArray.empty)) (Field.mk 0 ByteArray.empty) 0 0 (Rect.mk 0 0 0 0)), 0, i36)
  else
   if 0 ≤ (i37 : Int) ∧ (i37 : Int) ≤ (a0.size : Int) then
    (F69 n (a0.extract i37.toNat a0.size) 12).bind fun (r39 : (ByteArray × Int × Int)) =>
    if r39.2.2 == 0 then
     (F85s0 n a0 (IntKind.wrap .i64 (i37 + r39.2.1))).bind fun (r40 : (Int × Int × Int)) =>
     F72_j44 n a0 (Command.mk g35.Kind g35.ID g35.Which g35.To g35.At (A4.mk g35.F.a0 g35.F.a1 g35.F.a2 (Field.mk r40.1 r39.1)) g35.Value g35.Client g35.Session g35.Rect) r40.2.1 r40.2.2
    else
     F72_j44 n a0 g35 r39.2.2 (IntKind.wrap .i64 (i37 + r39.2.1))
   else none
theorem F72_j38_ok (n : Nat) (a0 : ByteArray) (g35 : Command) (i36 i37 : Int) : Sim Try.prog D (n + 8) p72c45 [(1, qp 1 0), (2, qp 2 0), (5, qp 5 0), (6, qp 6 0), (7, qp 7 0), (15, qj i36), (37, .one (.csl 300000 1 0 4)), (38, qj 4), (39, qj 2)] (W26 a0 g35 i37) (F72_j38 n a0 g35 i36 i37) (QB 1 (QT Try.prog D (n + 8) p72c51 (QL Try.prog D (n + 8) (n + 5) p72c54 (QB 0 (QT Try.prog D (n + 8) p72c70 (QF false pc72_r 0 F72_e)))))) := by
  unfold F72_j38
  refine Sim.seq (.rs (.rd 2 (W147 i36) [] (.thenN (.cd _ ?_ ?_))))
  ·exact Sim.sr 5 (W89 i36) [(2, some (.cells W0))] (.ret (.blockR (.thenR (.loopR (.blockR (.thenR .fn))))))
  ·refine Sim.skip (.blockN (.thenN (.region0 (.rd 2 [(39, qj 3), (72, qj 3)] [] (.loopN (.succ (.seq (.rg [(1, qp 1 0), (2, qp 2 0), (5, qp 5 0), (6, qp 6 0), (7, qp 7 0), (37, .one (.csl 300000 1 0 4)), (38, qj 4), (39, qj 3)] (W26 a0 g35 i37) (.rd 1 [(40, qb true)] [] (.thenN (.seq (.ct (.skip (.thenN (.seq (.block (.sr 3 [(12, qp 5 12), (42, qp 5 12), (41, qp 300000 3)] [] (.st 2 [(45, qj i37), (44, qs a0)] [] (.gp 46 (.slice 9 true false) [44, 45] none [] (fun hc => pr_cutL (s := a0) (k := .i64) (a := i37) Try.underlying9 hc) (.cl 47 true [[], []] 69 [46, kk 12] none (fun r39 => .tup (W85 r39)) (W142 a0 i37) (F69_ok _ _ _) (fun r39 => ?_)))))))))))))))))))))
   refine SimI.rd 7 (W19 r39) [] (.thenN (.sr 4 (W90 i37 r39) (W143 i37 r39) (.seq (.sr 2 (W137 r39) [] (.cd _ ?_ ?_)))))
   ·refine Sim.sr 5 [(59, qp 5 13), (58, qp 5 12), (57, qs r39.1), (56, qp 5 12)] [(5, some (.cells [lj g35.Kind, lj g35.ID, lj g35.Which, lj g35.To, lj g35.At.X, lj g35.At.Y, lj g35.F.a0.N, ls g35.F.a0.Text, lj g35.F.a1.N, ls g35.F.a1.Text, lj g35.F.a2.N, ls g35.F.a2.Text, lj g35.F.a3.N, ls r39.1, lj g35.Value.N, ls g35.Value.Text, lj g35.Client, lj g35.Session, lj g35.Rect.X0, lj g35.Rect.Y0, lj g35.Rect.X1, lj g35.Rect.Y1]))] (.region0 (.rn 2 [(62, .one (.fn 85 [.ptr 1 0, .ptr 6 0])), (61, qp 5 12)] [] (.bn ⟨some 63, .gcallv false false W51 [] 62 [], none, []⟩ (fun r40 => [(63, .tup [qj r40.1, qj r40.2.1])]) (fun r40 => (W102 a0 r40)) (fun r40 hr => pe (gv (ks := [1, 6]) (ARGS := [qp 1 0, qp 6 0]) (caps := [.ptr 1 0, .ptr 6 0]) (F85s0_ok _ _ _ _ hr))) (fun r40 => ?_))))
    refine SimI.rd 7 [(15, qj r40.2.1), (67, qp 5 12), (66, qp 5 12), (65, qj r40.2.1), (64, qj r40.1), (60, .tup [qj r40.1, qj r40.2.1])] [(5, some (.cells (W63 g35 r40 r39)))] (.thenN (.pr W58 [1, 2, 5, 6, 7, 300000] [] [(1, qp 1 0), (2, qp 2 0), (5, qp 5 0), (6, qp 6 0), (7, qp 7 0), (15, qj r40.2.1), (37, .one (.csl 300000 1 0 4)), (38, qj 4), (39, qj 3)] [(1, some (.cells [ls a0])), (2, some (.cells W0)), (5, some (.cells (W63 g35 r40 r39))), (6, some (.cells [lj r40.2.2])), (7, some (.cells W9)), (300000, some (.cells W12))] ?_))
    exact F72_j44_ok n a0 (Command.mk g35.Kind g35.ID g35.Which g35.To g35.At (A4.mk g35.F.a0 g35.F.a1 g35.F.a2 (Field.mk r40.1 r39.1)) g35.Value g35.Client g35.Session g35.Rect) r40.2.1 r40.2.2
   ·refine Sim.skip (.thenN (.pr W58 [1, 2, 5, 6, 7, 300000] [] [(1, qp 1 0), (2, qp 2 0), (5, qp 5 0), (6, qp 6 0), (7, qp 7 0), (15, qj r39.2.2), (37, .one (.csl 300000 1 0 4)), (38, qj 4), (39, qj 3)] (W30 a0 g35 i37 r39) ?_))
    exact F72_j44_ok n a0 g35 r39.2.2 (iw .i64 (i37 + r39.2.1))
def F72_j32 (n : Nat) (a0 : ByteArray) (g29 : Command) (i30 i31 : Int) : Option (Command × Int × Int) :=
  if i30 != 0 then
   some ((Command.mk 0 0 0 0 (Point.mk 0 0) (A4.mk (Field.mk 0 ByteArray.empty) (Field.mk 0 ByteArray.empty) (Field.mk 0 ByteArray.empty) (Field.mk 0 ByteArray.empty)) (Field.mk 0 ByteArray.empty) 0 0 (Rect.mk 0 0 0 0)), 0, i30)
  else
   if 0 ≤ (i31 : Int) ∧ (i31 : Int) ≤ (a0.size : Int) then
    (F69 n (a0.extract i31.toNat a0.size) 12).bind fun (r33 : (ByteArray × Int × Int)) =>
    if r33.2.2 == 0 then
     (F85s0 n a0 (IntKind.wrap .i64 (i31 + r33.2.1))).bind fun (r34 : (Int × Int × Int)) =>
     F72_j38 n a0 (Command.mk g29.Kind g29.ID g29.Which g29.To g29.At (A4.mk g29.F.a0 g29.F.a1 (Field.mk r34.1 r33.1) g29.F.a3) g29.Value g29.Client g29.Session g29.Rect) r34.2.1 r34.2.2
    else
     F72_j38 n a0 g29 r33.2.2 (IntKind.wrap .i64 (i31 + r33.2.1))
   else none
theorem F72_j32_ok (n : Nat) (a0 : ByteArray) (g29 : Command) (i30 i31 : Int) : Sim Try.prog D (n + 8) p72c45 [(1, qp 1 0), (2, qp 2 0), (5, qp 5 0), (6, qp 6 0), (7, qp 7 0), (15, qj i30), (37, .one (.csl 300000 1 0 4)), (38, qj 4), (39, qj 1)] (W26 a0 g29 i31) (F72_j32 n a0 g29 i30 i31) (QB 1 (QT Try.prog D (n + 8) p72c51 (QL Try.prog D (n + 8) (n + 6) p72c54 (QB 0 (QT Try.prog D (n + 8) p72c70 (QF false pc72_r 0 F72_e)))))) := by
  unfold F72_j32
  refine Sim.seq (.rs (.rd 2 (W147 i30) [] (.thenN (.cd _ ?_ ?_))))
  ·exact Sim.sr 5 (W89 i30) [(2, some (.cells W0))] (.ret (.blockR (.thenR (.loopR (.blockR (.thenR .fn))))))
  ·refine Sim.skip (.blockN (.thenN (.region0 (.rd 2 [(39, qj 2), (72, qj 2)] [] (.loopN (.succ (.seq (.rg [(1, qp 1 0), (2, qp 2 0), (5, qp 5 0), (6, qp 6 0), (7, qp 7 0), (37, .one (.csl 300000 1 0 4)), (38, qj 4), (39, qj 2)] (W26 a0 g29 i31) (.rd 1 [(40, qb true)] [] (.thenN (.seq (.ct (.skip (.thenN (.seq (.block (.sr 3 [(12, qp 5 10), (42, qp 5 10), (41, qp 300000 2)] [] (.st 2 [(45, qj i31), (44, qs a0)] [] (.gp 46 (.slice 9 true false) [44, 45] none [] (fun hc => pr_cutL (s := a0) (k := .i64) (a := i31) Try.underlying9 hc) (.cl 47 true [[], []] 69 [46, kk 12] none (fun r33 => .tup (W85 r33)) (W142 a0 i31) (F69_ok _ _ _) (fun r33 => ?_)))))))))))))))))))))
   refine SimI.rd 7 (W19 r33) [] (.thenN (.sr 4 (W90 i31 r33) (W143 i31 r33) (.seq (.sr 2 (W137 r33) [] (.cd _ ?_ ?_)))))
   ·refine Sim.sr 5 [(59, qp 5 11), (58, qp 5 10), (57, qs r33.1), (56, qp 5 10)] [(5, some (.cells [lj g29.Kind, lj g29.ID, lj g29.Which, lj g29.To, lj g29.At.X, lj g29.At.Y, lj g29.F.a0.N, ls g29.F.a0.Text, lj g29.F.a1.N, ls g29.F.a1.Text, lj g29.F.a2.N, ls r33.1, lj g29.F.a3.N, ls g29.F.a3.Text, lj g29.Value.N, ls g29.Value.Text, lj g29.Client, lj g29.Session, lj g29.Rect.X0, lj g29.Rect.Y0, lj g29.Rect.X1, lj g29.Rect.Y1]))] (.region0 (.rn 2 [(62, .one (.fn 85 [.ptr 1 0, .ptr 6 0])), (61, qp 5 10)] [] (.bn ⟨some 63, .gcallv false false W51 [] 62 [], none, []⟩ (fun r34 => [(63, .tup [qj r34.1, qj r34.2.1])]) (fun r34 => (W102 a0 r34)) (fun r34 hr => pe (gv (ks := [1, 6]) (ARGS := [qp 1 0, qp 6 0]) (caps := [.ptr 1 0, .ptr 6 0]) (F85s0_ok _ _ _ _ hr))) (fun r34 => ?_))))
    refine SimI.rd 7 [(15, qj r34.2.1), (67, qp 5 10), (66, qp 5 10), (65, qj r34.2.1), (64, qj r34.1), (60, .tup [qj r34.1, qj r34.2.1])] [(5, some (.cells (W64 g29 r34 r33)))] (.thenN (.pr W58 [1, 2, 5, 6, 7, 300000] [] [(1, qp 1 0), (2, qp 2 0), (5, qp 5 0), (6, qp 6 0), (7, qp 7 0), (15, qj r34.2.1), (37, .one (.csl 300000 1 0 4)), (38, qj 4), (39, qj 2)] [(1, some (.cells [ls a0])), (2, some (.cells W0)), (5, some (.cells (W64 g29 r34 r33))), (6, some (.cells [lj r34.2.2])), (7, some (.cells W9)), (300000, some (.cells W12))] ?_))
    exact F72_j38_ok n a0 (Command.mk g29.Kind g29.ID g29.Which g29.To g29.At (A4.mk g29.F.a0 g29.F.a1 (Field.mk r34.1 r33.1) g29.F.a3) g29.Value g29.Client g29.Session g29.Rect) r34.2.1 r34.2.2
   ·refine Sim.skip (.thenN (.pr W58 [1, 2, 5, 6, 7, 300000] [] [(1, qp 1 0), (2, qp 2 0), (5, qp 5 0), (6, qp 6 0), (7, qp 7 0), (15, qj r33.2.2), (37, .one (.csl 300000 1 0 4)), (38, qj 4), (39, qj 2)] (W30 a0 g29 i31 r33) ?_))
    exact F72_j38_ok n a0 g29 r33.2.2 (iw .i64 (i31 + r33.2.1))
def F72_j26 (n : Nat) (a0 : ByteArray) (g23 : Command) (i24 i25 : Int) : Option (Command × Int × Int) :=
  if i24 != 0 then
   some ((Command.mk 0 0 0 0 (Point.mk 0 0) (A4.mk (Field.mk 0 ByteArray.empty) (Field.mk 0 ByteArray.empty) (Field.mk 0 ByteArray.empty) (Field.mk 0 ByteArray.empty)) (Field.mk 0 ByteArray.empty) 0 0 (Rect.mk 0 0 0 0)), 0, i24)
  else
   if 0 ≤ (i25 : Int) ∧ (i25 : Int) ≤ (a0.size : Int) then
    (F69 n (a0.extract i25.toNat a0.size) 12).bind fun (r27 : (ByteArray × Int × Int)) =>
    if r27.2.2 == 0 then
     (F85s0 n a0 (IntKind.wrap .i64 (i25 + r27.2.1))).bind fun (r28 : (Int × Int × Int)) =>
     F72_j32 n a0 (Command.mk g23.Kind g23.ID g23.Which g23.To g23.At (A4.mk g23.F.a0 (Field.mk r28.1 r27.1) g23.F.a2 g23.F.a3) g23.Value g23.Client g23.Session g23.Rect) r28.2.1 r28.2.2
    else
     F72_j32 n a0 g23 r27.2.2 (IntKind.wrap .i64 (i25 + r27.2.1))
   else none
theorem F72_j26_ok (n : Nat) (a0 : ByteArray) (g23 : Command) (i24 i25 : Int) : Sim Try.prog D (n + 8) p72c45 [(1, qp 1 0), (2, qp 2 0), (5, qp 5 0), (6, qp 6 0), (7, qp 7 0), (15, qj i24), (37, .one (.csl 300000 1 0 4)), (38, qj 4), (39, qj 0)] (W26 a0 g23 i25) (F72_j26 n a0 g23 i24 i25) (QB 1 (QT Try.prog D (n + 8) p72c51 (QL Try.prog D (n + 8) (n + 7) p72c54 (QB 0 (QT Try.prog D (n + 8) p72c70 (QF false pc72_r 0 F72_e)))))) := by
  unfold F72_j26
  refine Sim.seq (.rs (.rd 2 (W147 i24) [] (.thenN (.cd _ ?_ ?_))))
  ·exact Sim.sr 5 (W89 i24) [(2, some (.cells W0))] (.ret (.blockR (.thenR (.loopR (.blockR (.thenR .fn))))))
  ·refine Sim.skip (.blockN (.thenN (.region0 (.rd 2 [(39, qj 1), (72, qj 1)] [] (.loopN (.succ (.seq (.rg [(1, qp 1 0), (2, qp 2 0), (5, qp 5 0), (6, qp 6 0), (7, qp 7 0), (37, .one (.csl 300000 1 0 4)), (38, qj 4), (39, qj 1)] (W26 a0 g23 i25) (.rd 1 [(40, qb true)] [] (.thenN (.seq (.ct (.skip (.thenN (.seq (.block (.sr 3 [(12, qp 5 8), (42, qp 5 8), (41, qp 300000 1)] [] (.st 2 [(45, qj i25), (44, qs a0)] [] (.gp 46 (.slice 9 true false) [44, 45] none [] (fun hc => pr_cutL (s := a0) (k := .i64) (a := i25) Try.underlying9 hc) (.cl 47 true [[], []] 69 [46, kk 12] none (fun r27 => .tup (W85 r27)) (W142 a0 i25) (F69_ok _ _ _) (fun r27 => ?_)))))))))))))))))))))
   refine SimI.rd 7 (W19 r27) [] (.thenN (.sr 4 (W90 i25 r27) (W143 i25 r27) (.seq (.sr 2 (W137 r27) [] (.cd _ ?_ ?_)))))
   ·refine Sim.sr 5 [(59, qp 5 9), (58, qp 5 8), (57, qs r27.1), (56, qp 5 8)] [(5, some (.cells [lj g23.Kind, lj g23.ID, lj g23.Which, lj g23.To, lj g23.At.X, lj g23.At.Y, lj g23.F.a0.N, ls g23.F.a0.Text, lj g23.F.a1.N, ls r27.1, lj g23.F.a2.N, ls g23.F.a2.Text, lj g23.F.a3.N, ls g23.F.a3.Text, lj g23.Value.N, ls g23.Value.Text, lj g23.Client, lj g23.Session, lj g23.Rect.X0, lj g23.Rect.Y0, lj g23.Rect.X1, lj g23.Rect.Y1]))] (.region0 (.rn 2 [(62, .one (.fn 85 [.ptr 1 0, .ptr 6 0])), (61, qp 5 8)] [] (.bn ⟨some 63, .gcallv false false W51 [] 62 [], none, []⟩ (fun r28 => [(63, .tup [qj r28.1, qj r28.2.1])]) (fun r28 => (W102 a0 r28)) (fun r28 hr => pe (gv (ks := [1, 6]) (ARGS := [qp 1 0, qp 6 0]) (caps := [.ptr 1 0, .ptr 6 0]) (F85s0_ok _ _ _ _ hr))) (fun r28 => ?_))))
    refine SimI.rd 7 [(15, qj r28.2.1), (67, qp 5 8), (66, qp 5 8), (65, qj r28.2.1), (64, qj r28.1), (60, .tup [qj r28.1, qj r28.2.1])] [(5, some (.cells (W65 g23 r28 r27)))] (.thenN (.pr W58 [1, 2, 5, 6, 7, 300000] [] [(1, qp 1 0), (2, qp 2 0), (5, qp 5 0), (6, qp 6 0), (7, qp 7 0), (15, qj r28.2.1), (37, .one (.csl 300000 1 0 4)), (38, qj 4), (39, qj 1)] [(1, some (.cells [ls a0])), (2, some (.cells W0)), (5, some (.cells (W65 g23 r28 r27))), (6, some (.cells [lj r28.2.2])), (7, some (.cells W9)), (300000, some (.cells W12))] ?_))
    exact F72_j32_ok n a0 (Command.mk g23.Kind g23.ID g23.Which g23.To g23.At (A4.mk g23.F.a0 (Field.mk r28.1 r27.1) g23.F.a2 g23.F.a3) g23.Value g23.Client g23.Session g23.Rect) r28.2.1 r28.2.2
   ·refine Sim.skip (.thenN (.pr W58 [1, 2, 5, 6, 7, 300000] [] [(1, qp 1 0), (2, qp 2 0), (5, qp 5 0), (6, qp 6 0), (7, qp 7 0), (15, qj r27.2.2), (37, .one (.csl 300000 1 0 4)), (38, qj 4), (39, qj 1)] (W30 a0 g23 i25 r27) ?_))
    exact F72_j32_ok n a0 g23 r27.2.2 (iw .i64 (i25 + r27.2.1))
def F72_j13 (n : Nat) (a0 : ByteArray) (g10 : Command) (i11 i12 : Int) : Option (Command × Int × Int) :=
  if i11 != 0 then
   some ((Command.mk 0 0 0 0 (Point.mk 0 0) (A4.mk (Field.mk 0 ByteArray.empty) (Field.mk 0 ByteArray.empty) (Field.mk 0 ByteArray.empty) (Field.mk 0 ByteArray.empty)) (Field.mk 0 ByteArray.empty) 0 0 (Rect.mk 0 0 0 0)), 0, i11)
  else
   (F48s0 n g10).bind fun (r14 : Nat) =>
   if r14 = 0 then
    F72_j47 n a0 g10 i12
   else
    if r14 = 1 then
     if 0 ≤ (i12 : Int) ∧ (i12 : Int) ≤ (a0.size : Int) then
      (F69 n (a0.extract i12.toNat a0.size) 12).bind fun (r21 : (ByteArray × Int × Int)) =>
      if r21.2.2 == 0 then
       (F85s0 n a0 (IntKind.wrap .i64 (i12 + r21.2.1))).bind fun (r22 : (Int × Int × Int)) =>
       F72_j26 n a0 (Command.mk g10.Kind g10.ID g10.Which g10.To g10.At (A4.mk (Field.mk r22.1 r21.1) g10.F.a1 g10.F.a2 g10.F.a3) g10.Value g10.Client g10.Session g10.Rect) r22.2.1 r22.2.2
      else
       F72_j26 n a0 g10 r21.2.2 (IntKind.wrap .i64 (i12 + r21.2.1))
     else none
    else
     if r14 = 2 then
      if 0 ≤ (i12 : Int) ∧ (i12 : Int) ≤ (a0.size : Int) then
       (F69 n (a0.extract i12.toNat a0.size) 12).bind fun (r15 : (ByteArray × Int × Int)) =>
       if r15.2.2 == 0 then
        (F85s0 n a0 (IntKind.wrap .i64 (i12 + r15.2.1))).bind fun (r16 : (Int × Int × Int)) =>
        F72_j20 n a0 (Command.mk g10.Kind g10.ID g10.Which g10.To g10.At g10.F (Field.mk r16.1 r15.1) g10.Client g10.Session g10.Rect) r16.2.1 r16.2.2
       else
        F72_j20 n a0 g10 r15.2.2 (IntKind.wrap .i64 (i12 + r15.2.1))
      else none
     else
      none
theorem F72_j13_ok (n : Nat) (a0 : ByteArray) (g10 : Command) (i11 i12 : Int) : Sim Try.prog D (n + 8) p72c22 [(1, qp 1 0), (2, qp 2 0), (5, qp 5 0), (6, qp 6 0), (7, qp 7 0), (10, qj i11)] [(1, some (.cells [ls a0])), (2, some (.cells W0)), (5, some (.cells (Command.cells g10))), (6, some (.cells [lj i12])), (7, some (.cells W9))] (F72_j13 n a0 g10 i11 i12) (QT Try.prog D (n + 8) p72c71 (QF false pc72_r 0 F72_e)) := by
  unfold F72_j13
  refine Sim.seq (.rs (.rd 2 [(34, qb (i11 != 0)), (33, qj i11)] [] (.thenN (.cd _ ?_ ?_))))
  ·exact Sim.sr 5 [(4, qj i11), (3, qj 0), (36, qj i11), (35, .agg W0)] [(2, some (.cells W0))] (.ret (.thenR .fn))
  ·refine Sim.skip (.thenN (.seq (.seq (.region0 (.open (og := F48s0 n g10) (fun r14 hr14 => ?_))))))
   refine SimI.ite (c := r14 = 0) (fun cr14 => ?_) (fun _ => ?_)
   ·refine SimI.se ⟨some 37, .gcall false false W16 [[]] 48 [5], none, []⟩ [(37, .one (.view 1 0 fun _ => []))] [(5, some (.cells (Command.cells g10)))] (pe (gq (ks := [5]) (ARGS := [qp 5 0]) ((F48s0_ok _ _ _ hr14).trans (congrArg some (F48s0_e_0 g10 r14 cr14))))) (.rd 2 [(39, qj 0), (38, qj 0)] [] (.thenN (.block (.loop (.succ (.seq (.rg [(1, qp 1 0), (2, qp 2 0), (5, qp 5 0), (6, qp 6 0), (7, qp 7 0), (37, .one (.view 1 0 fun _ => [])), (38, qj 0), (39, qj 0)] [(1, some (.cells [ls a0])), (2, some (.cells W0)), (5, some (.cells (Command.cells g10))), (6, some (.cells [lj i12])), (7, some (.cells W9))] (.rd 1 [(40, qb false)] [] (.thenN (.seq (.cf (.exit (.thenX (.loopX (.blockX (.thenN (.pr [1, 2, 5, 6] [1, 2, 5, 6, 7, 300000] [] W92 (W57 a0 g10 i12) ?_)))))))))))))))))
    exact F72_j47_ok n a0 g10 i12
   ·refine SimI.ite (c := r14 = 1) (fun cr14 => ?_) (fun _ => ?_)
    ·refine SimI.se ⟨some 37, .gcall false false W16 [[]] 48 [5], none, []⟩ [(37, .one (.csl 300000 1 0 4))] [(5, some (.cells (Command.cells g10))), (300000, some (.cells W12))] (pe (eff_gcall (ks := [5]) (rks := []) (new := [300000]) (ARGS := [qp 5 0]) (args1 := [qp 5 0]) (args2 := [qp 1000000 0]) (os := [.cells (Command.cells g10)]) (os' := [.cells (Command.cells g10), .cells W55]) (os1 := [.cells (Command.cells g10), .cells W55]) (res := .one (.csl 1000001 1 0 4)) (res1 := .one (.csl 1000001 1 0 4)) (r := .one (.csl 300000 1 0 4)) (N := [(5, some (.cells (Command.cells g10))), (300000, some (.cells W12))]) (by kernel_rfl) (readA_ow (readA_keep (by kernel_rfl) (readA_nil))) (by kernel_rfl) (by kernel_rfl) (by kernel_rfl) (by kernel_rfl) ((F48s0_ok _ _ _ hr14).trans (congrArg some (F48s0_e_1 g10 r14 cr14))) (by kernel_rfl) (by kernel_rfl) (by kernel_rfl) rfl (by kernel_rfl) (by kernel_rfl) (by kernel_rfl))) (.rd 2 [(39, qj 0), (38, qj 4)] [] (.thenN (.block (.loop (.succ (.seq (.rg [(1, qp 1 0), (2, qp 2 0), (5, qp 5 0), (6, qp 6 0), (7, qp 7 0), (37, .one (.csl 300000 1 0 4)), (38, qj 4), (39, qj 0)] (W26 a0 g10 i12) (.rd 1 [(40, qb true)] [] (.thenN (.seq (.ct (.skip (.thenN (.seq (.block (.sr 3 [(12, qp 5 6), (42, qp 5 6), (41, qp 300000 0)] [] (.st 2 [(45, qj i12), (44, qs a0)] [] (.gp 46 (.slice 9 true false) [44, 45] none [] (fun hc => pr_cutL (s := a0) (k := .i64) (a := i12) Try.underlying9 hc) (.cl 47 true [[], []] 69 [46, kk 12] none (fun r21 => .tup (W85 r21)) (W142 a0 i12) (F69_ok _ _ _) (fun r21 => ?_))))))))))))))))))))
     refine SimI.rd 7 (W19 r21) [] (.thenN (.sr 4 (W90 i12 r21) (W143 i12 r21) (.seq (.sr 2 (W137 r21) [] (.cd _ ?_ ?_)))))
     ·refine Sim.sr 5 [(59, qp 5 7), (58, qp 5 6), (57, qs r21.1), (56, qp 5 6)] [(5, some (.cells [lj g10.Kind, lj g10.ID, lj g10.Which, lj g10.To, lj g10.At.X, lj g10.At.Y, lj g10.F.a0.N, ls r21.1, lj g10.F.a1.N, ls g10.F.a1.Text, lj g10.F.a2.N, ls g10.F.a2.Text, lj g10.F.a3.N, ls g10.F.a3.Text, lj g10.Value.N, ls g10.Value.Text, lj g10.Client, lj g10.Session, lj g10.Rect.X0, lj g10.Rect.Y0, lj g10.Rect.X1, lj g10.Rect.Y1]))] (.region0 (.rn 2 [(62, .one (.fn 85 [.ptr 1 0, .ptr 6 0])), (61, qp 5 6)] [] (.bn ⟨some 63, .gcallv false false W51 [] 62 [], none, []⟩ (fun r22 => [(63, .tup [qj r22.1, qj r22.2.1])]) (fun r22 => (W102 a0 r22)) (fun r22 hr => pe (gv (ks := [1, 6]) (ARGS := [qp 1 0, qp 6 0]) (caps := [.ptr 1 0, .ptr 6 0]) (F85s0_ok _ _ _ _ hr))) (fun r22 => ?_))))
      refine SimI.rd 7 [(15, qj r22.2.1), (67, qp 5 6), (66, qp 5 6), (65, qj r22.2.1), (64, qj r22.1), (60, .tup [qj r22.1, qj r22.2.1])] [(5, some (.cells (W66 g10 r22 r21)))] (.thenN (.pr W58 [1, 2, 5, 6, 7, 300000] [] [(1, qp 1 0), (2, qp 2 0), (5, qp 5 0), (6, qp 6 0), (7, qp 7 0), (15, qj r22.2.1), (37, .one (.csl 300000 1 0 4)), (38, qj 4), (39, qj 0)] [(1, some (.cells [ls a0])), (2, some (.cells W0)), (5, some (.cells (W66 g10 r22 r21))), (6, some (.cells [lj r22.2.2])), (7, some (.cells W9)), (300000, some (.cells W12))] ?_))
      exact F72_j26_ok n a0 (Command.mk g10.Kind g10.ID g10.Which g10.To g10.At (A4.mk (Field.mk r22.1 r21.1) g10.F.a1 g10.F.a2 g10.F.a3) g10.Value g10.Client g10.Session g10.Rect) r22.2.1 r22.2.2
     ·refine Sim.skip (.thenN (.pr W58 [1, 2, 5, 6, 7, 300000] [] [(1, qp 1 0), (2, qp 2 0), (5, qp 5 0), (6, qp 6 0), (7, qp 7 0), (15, qj r21.2.2), (37, .one (.csl 300000 1 0 4)), (38, qj 4), (39, qj 0)] (W30 a0 g10 i12 r21) ?_))
      exact F72_j26_ok n a0 g10 r21.2.2 (iw .i64 (i12 + r21.2.1))
    ·refine SimI.ite (c := r14 = 2) (fun cr14 => ?_) (fun _ => ?_)
     ·refine SimI.se ⟨some 37, .gcall false false W16 [[]] 48 [5], none, []⟩ [(37, .one (.csl 300000 1 0 1))] [(5, some (.cells (Command.cells g10))), (300000, some (.cells [.ptr 5 14]))] (pe (eff_gcall (ks := [5]) (rks := []) (new := [300000]) (ARGS := [qp 5 0]) (args1 := [qp 5 0]) (args2 := [qp 1000000 0]) (os := [.cells (Command.cells g10)]) (os' := [.cells (Command.cells g10), .cells [.ptr 1000000 14]]) (os1 := [.cells (Command.cells g10), .cells [.ptr 1000000 14]]) (res := .one (.csl 1000001 1 0 1)) (res1 := .one (.csl 1000001 1 0 1)) (r := .one (.csl 300000 1 0 1)) (N := [(5, some (.cells (Command.cells g10))), (300000, some (.cells [.ptr 5 14]))]) (by kernel_rfl) (readA_ow (readA_keep (by kernel_rfl) (readA_nil))) (by kernel_rfl) (by kernel_rfl) (by kernel_rfl) (by kernel_rfl) ((F48s0_ok _ _ _ hr14).trans (congrArg some (F48s0_e_2 g10 r14 cr14))) (by kernel_rfl) (by kernel_rfl) (by kernel_rfl) rfl (by kernel_rfl) (by kernel_rfl) (by kernel_rfl))) (.rd 2 [(39, qj 0), (38, qj 1)] [] (.thenN (.block (.loop (.succ (.seq (.rg [(1, qp 1 0), (2, qp 2 0), (5, qp 5 0), (6, qp 6 0), (7, qp 7 0), (37, .one (.csl 300000 1 0 1)), (38, qj 1), (39, qj 0)] (W52 a0 g10 i12) (.rd 1 [(40, qb true)] [] (.thenN (.seq (.ct (.skip (.thenN (.seq (.block (.sr 3 [(12, qp 5 14), (42, qp 5 14), (41, qp 300000 0)] [] (.st 2 [(45, qj i12), (44, qs a0)] [] (.gp 46 (.slice 9 true false) [44, 45] none [] (fun hc => pr_cutL (s := a0) (k := .i64) (a := i12) Try.underlying9 hc) (.cl 47 true [[], []] 69 [46, kk 12] none (fun r15 => .tup (W85 r15)) (W142 a0 i12) (F69_ok _ _ _) (fun r15 => ?_))))))))))))))))))))
      refine SimI.rd 7 (W19 r15) [] (.thenN (.sr 4 (W90 i12 r15) (W143 i12 r15) (.seq (.sr 2 (W137 r15) [] (.cd _ ?_ ?_)))))
      ·refine Sim.sr 5 [(59, qp 5 15), (58, qp 5 14), (57, qs r15.1), (56, qp 5 14)] [(5, some (.cells [lj g10.Kind, lj g10.ID, lj g10.Which, lj g10.To, lj g10.At.X, lj g10.At.Y, lj g10.F.a0.N, ls g10.F.a0.Text, lj g10.F.a1.N, ls g10.F.a1.Text, lj g10.F.a2.N, ls g10.F.a2.Text, lj g10.F.a3.N, ls g10.F.a3.Text, lj g10.Value.N, ls r15.1, lj g10.Client, lj g10.Session, lj g10.Rect.X0, lj g10.Rect.Y0, lj g10.Rect.X1, lj g10.Rect.Y1]))] (.region0 (.rn 2 [(62, .one (.fn 85 [.ptr 1 0, .ptr 6 0])), (61, qp 5 14)] [] (.bn ⟨some 63, .gcallv false false W51 [] 62 [], none, []⟩ (fun r16 => [(63, .tup [qj r16.1, qj r16.2.1])]) (fun r16 => (W102 a0 r16)) (fun r16 hr => pe (gv (ks := [1, 6]) (ARGS := [qp 1 0, qp 6 0]) (caps := [.ptr 1 0, .ptr 6 0]) (F85s0_ok _ _ _ _ hr))) (fun r16 => ?_))))
       refine SimI.rd 7 [(15, qj r16.2.1), (67, qp 5 14), (66, qp 5 14), (65, qj r16.2.1), (64, qj r16.1), (60, .tup [qj r16.1, qj r16.2.1])] [(5, some (.cells (W67 g10 r16 r15)))] (.thenN (.pr W58 [1, 2, 5, 6, 7, 300000] [] [(1, qp 1 0), (2, qp 2 0), (5, qp 5 0), (6, qp 6 0), (7, qp 7 0), (15, qj r16.2.1), (37, .one (.csl 300000 1 0 1)), (38, qj 1), (39, qj 0)] [(1, some (.cells [ls a0])), (2, some (.cells W0)), (5, some (.cells (W67 g10 r16 r15))), (6, some (.cells [lj r16.2.2])), (7, some (.cells W9)), (300000, some (.cells [.ptr 5 14]))] ?_))
       exact F72_j20_ok n a0 (Command.mk g10.Kind g10.ID g10.Which g10.To g10.At g10.F (Field.mk r16.1 r15.1) g10.Client g10.Session g10.Rect) r16.2.1 r16.2.2
      ·refine Sim.skip (.thenN (.pr W58 [1, 2, 5, 6, 7, 300000] [] [(1, qp 1 0), (2, qp 2 0), (5, qp 5 0), (6, qp 6 0), (7, qp 7 0), (15, qj r15.2.2), (37, .one (.csl 300000 1 0 1)), (38, qj 1), (39, qj 0)] [(1, some (.cells [ls a0])), (2, some (.cells W0)), (5, some (.cells (Command.cells g10))), (6, some (.cells [lj (iw .i64 (i12 + r15.2.1))])), (7, some (.cells W9)), (300000, some (.cells [.ptr 5 14]))] ?_))
       exact F72_j20_ok n a0 g10 r15.2.2 (iw .i64 (i12 + r15.2.1))
     ·exact SimI.vac rfl
def F72 (n : Nat) (a0 : ByteArray) : Option (Command × Int × Int) :=
 (F87s0 n (Command.mk 0 0 0 0 (Point.mk 0 0) (A4.mk (Field.mk 0 ByteArray.empty) (Field.mk 0 ByteArray.empty) (Field.mk 0 ByteArray.empty) (Field.mk 0 ByteArray.empty)) (Field.mk 0 ByteArray.empty) 0 0 (Rect.mk 0 0 0 0)) a0 0).bind fun (r1 : (Int × Command × Int)) =>
 if r1.1 != 0 then
  some ((Command.mk 0 0 0 0 (Point.mk 0 0) (A4.mk (Field.mk 0 ByteArray.empty) (Field.mk 0 ByteArray.empty) (Field.mk 0 ByteArray.empty) (Field.mk 0 ByteArray.empty)) (Field.mk 0 ByteArray.empty) 0 0 (Rect.mk 0 0 0 0)), 0, r1.1)
 else
  (F47s0 n r1.2.1).bind fun (r2 : Nat) =>
  if r2 = 0 then
   (F87s7 n a0 r1.2.2).bind fun (r9 : Unit) =>
   F72_j13 n a0 r1.2.1 0 r1.2.2
  else
   if r2 = 1 then
    (F87s6 n r1.2.1 a0 r1.2.2).bind fun (r8 : (Int × Command × Int)) =>
    F72_j13 n a0 r8.2.1 r8.1 r8.2.2
   else
    if r2 = 2 then
     (F87s5 n r1.2.1 a0 r1.2.2).bind fun (r7 : (Int × Command × Int)) =>
     F72_j13 n a0 r7.2.1 r7.1 r7.2.2
    else
     if r2 = 3 then
      (F87s4 n r1.2.1 a0 r1.2.2).bind fun (r6 : (Int × Command × Int)) =>
      F72_j13 n a0 r6.2.1 r6.1 r6.2.2
     else
      if r2 = 4 then
       (F87s3 n r1.2.1 a0 r1.2.2).bind fun (r5 : (Int × Command × Int)) =>
       F72_j13 n a0 r5.2.1 r5.1 r5.2.2
      else
       if r2 = 5 then
        (F87s2 n r1.2.1 a0 r1.2.2).bind fun (r4 : (Int × Command × Int)) =>
        F72_j13 n a0 r4.2.1 r4.1 r4.2.2
       else
        if r2 = 6 then
         (F87s1 n r1.2.1 a0 r1.2.2).bind fun (r3 : (Int × Command × Int)) =>
         F72_j13 n a0 r3.2.1 r3.1 r3.2.2
        else
         none
theorem F72_ok (n : Nat) (a0 : ByteArray) : ∀ r, F72 n a0 = some r → D 72 [.one (ls a0)] [] = some (F72_e r) := by
 refine fn_to (D := D) (n := n + 8) (nt := 90) (rs := pc72_r) (c := p72c78) (L := [(0, qs a0)]) (M := []) (k := 0) rfl rfl rfl rfl rfl rfl rfl ?_
 unfold F72
 refine Sim.sr 4 [(4, qj 0), (3, qj 0), (2, qp 2 0), (1, qp 1 0)] [(2, some (.cells W0)), (1, some (.cells [ls a0]))] (.sr 1 [(5, qp 5 0)] [(5, some (.cells W0))] (.sr 2 [(6, qp 6 0)] [(6, some (.cells [lj 0])), (6, some (.cells [lj 0]))] (.sr 3 [(7, qp 7 0), (18, .one (.fn 85 [.ptr 1 0, .ptr 6 0]))] [(7, some (.cells W9)), (7, some (.cells [.val (.nilFunc)]))] (.sr 2 (rp [8, 19] (.one (.fn 87 [.ptr 7 0]))) [] (.seq (.st 5 [(24, .one (.csl 24 1 0 3)), (23, qp 5 17), (22, qp 5 16), (21, qp 5 0), (20, .one (.fn 87 [.ptr 7 0]))] [(24, some (.cells [.ptr 5 0, .ptr 5 16, .ptr 5 17]))] (.bn ⟨some 25, .gcallv false false [1, 5, 6, 7, 24, 300000, 300001, 300002, 300003, 300004, 300005, 300006, 300007] [[(0, 1)]] 20 [24], none, []⟩ (fun r1 => [(25, qj r1.1)]) (fun r1 => [(24, some (.cells [.ptr 5 0, .ptr 5 16, .ptr 5 17])), (5, some (.cells (Command.cells r1.2.1))), (7, some (.cells W9)), (1, some (.cells [ls a0])), (6, some (.cells [lj r1.2.2]))]) (fun r1 hr => pe (gv (ks := [24, 5, 7, 1, 6]) (ARGS := [.one (.csl 24 1 0 3), qp 7 0]) (caps := [.ptr 7 0]) (F87s0_ok _ _ _ _ _ hr))) (fun r1 => ?_))))))))
 refine SimI.rd 1 [(9, qj r1.1)] [] (.thenN (.sr 2 [(27, qb (r1.1 != 0)), (26, qj r1.1)] [] (.cd _ ?_ ?_)))
 ·exact Sim.sr 5 [(4, qj r1.1), (3, qj 0), (29, qj r1.1), (28, .agg W0)] [(2, some (.cells W0))] (.ret (.thenR .fn))
 ·refine Sim.skip (.thenN (.seq (.st 1 [(30, .one (.fn 87 [.ptr 7 0]))] [] (.open (og := F47s0 n r1.2.1) (fun r2 hr2 => ?_)))))
  refine SimI.ite (c := r2 = 0) (fun cr2 => ?_) (fun _ => ?_)
  ·refine SimI.se ⟨some 31, .gcall false false W16 [[]] 47 [5], none, []⟩ [(31, .one (.view 1 0 fun _ => []))] [(5, some (.cells (Command.cells r1.2.1)))] (pe (gq (ks := [5]) (ARGS := [qp 5 0]) ((F47s0_ok _ _ _ hr2).trans (congrArg some (F47s0_e_0 r1.2.1 r2 cr2))))) (.bn ⟨some 32, .gcallv false false W25 [[(0, 1)]] 30 [31], none, []⟩ (fun r9 => [(32, qj 0)]) (fun r9 => [(7, some (.cells W9)), (1, some (.cells [ls a0])), (6, some (.cells [lj r1.2.2]))]) (fun r9 hr => pe (gv (ks := [7, 1, 6]) (ARGS := [.one (.view 1 0 fun _ => []), qp 7 0]) (caps := [.ptr 7 0]) (F87s7_ok _ _ _ _ hr))) (fun r9 => ?_))
   refine SimI.rd 1 [(10, qj 0)] [] (.thenN (.pr [1, 2, 5, 6, 7, 10] W100 [] [(1, qp 1 0), (2, qp 2 0), (5, qp 5 0), (6, qp 6 0), (7, qp 7 0), (10, qj 0)] (W27 a0 r1) ?_))
   exact F72_j13_ok n a0 r1.2.1 0 r1.2.2
  ·refine SimI.ite (c := r2 = 1) (fun cr2 => ?_) (fun _ => ?_)
   ·refine SimI.se ⟨some 31, .gcall false false W16 [[]] 47 [5], none, []⟩ [(31, .one (.csl 300000 1 0 2))] [(5, some (.cells (Command.cells r1.2.1))), (300000, some (.cells [.ptr 5 4, .ptr 5 5]))] (pe (eff_gcall (ks := [5]) (rks := []) (new := [300000]) (ARGS := [qp 5 0]) (args1 := [qp 5 0]) (args2 := [qp 1000000 0]) (os := [.cells (Command.cells r1.2.1)]) (os' := [.cells (Command.cells r1.2.1), .cells W114]) (os1 := [.cells (Command.cells r1.2.1), .cells W114]) (res := .one (.csl 1000001 1 0 2)) (res1 := .one (.csl 1000001 1 0 2)) (r := .one (.csl 300000 1 0 2)) (N := [(5, some (.cells (Command.cells r1.2.1))), (300000, some (.cells [.ptr 5 4, .ptr 5 5]))]) (by kernel_rfl) (readA_ow (readA_keep (by kernel_rfl) (readA_nil))) (by kernel_rfl) (by kernel_rfl) (by kernel_rfl) (by kernel_rfl) ((F47s0_ok _ _ _ hr2).trans (congrArg some (F47s0_e_1 r1.2.1 r2 cr2))) (by kernel_rfl) (by kernel_rfl) (by kernel_rfl) rfl (by kernel_rfl) (by kernel_rfl) (by kernel_rfl))) (.bn ⟨some 32, .gcallv false false W25 [[(0, 1)]] 30 [31], none, []⟩ (fun r8 => [(32, qj r8.1)]) (fun r8 => [(300000, some (.cells [.ptr 5 4, .ptr 5 5])), (5, some (.cells (Command.cells r8.2.1))), (7, some (.cells W9)), (1, some (.cells [ls a0])), (6, some (.cells [lj r8.2.2]))]) (fun r8 hr => pe (gv (ks := [300000, 5, 7, 1, 6]) (ARGS := [.one (.csl 300000 1 0 2), qp 7 0]) (caps := [.ptr 7 0]) (F87s6_ok _ _ _ _ _ hr))) (fun r8 => ?_))
    refine SimI.rd 1 [(10, qj r8.1)] [] (.thenN (.pr [1, 2, 5, 6, 7, 10] W100 [] (W43 r8) (W27 a0 r8) ?_))
    exact F72_j13_ok n a0 r8.2.1 r8.1 r8.2.2
   ·refine SimI.ite (c := r2 = 2) (fun cr2 => ?_) (fun _ => ?_)
    ·refine SimI.se ⟨some 31, .gcall false false W16 [[]] 47 [5], none, []⟩ [(31, .one (.csl 300000 1 0 3))] [(5, some (.cells (Command.cells r1.2.1))), (300000, some (.cells [.ptr 5 1, .ptr 5 4, .ptr 5 5]))] (pe (eff_gcall (ks := [5]) (rks := []) (new := [300000]) (ARGS := [qp 5 0]) (args1 := [qp 5 0]) (args2 := [qp 1000000 0]) (os := [.cells (Command.cells r1.2.1)]) (os' := [.cells (Command.cells r1.2.1), .cells W73]) (os1 := [.cells (Command.cells r1.2.1), .cells W73]) (res := .one (.csl 1000001 1 0 3)) (res1 := .one (.csl 1000001 1 0 3)) (r := .one (.csl 300000 1 0 3)) (N := [(5, some (.cells (Command.cells r1.2.1))), (300000, some (.cells [.ptr 5 1, .ptr 5 4, .ptr 5 5]))]) (by kernel_rfl) (readA_ow (readA_keep (by kernel_rfl) (readA_nil))) (by kernel_rfl) (by kernel_rfl) (by kernel_rfl) (by kernel_rfl) ((F47s0_ok _ _ _ hr2).trans (congrArg some (F47s0_e_2 r1.2.1 r2 cr2))) (by kernel_rfl) (by kernel_rfl) (by kernel_rfl) rfl (by kernel_rfl) (by kernel_rfl) (by kernel_rfl))) (.bn ⟨some 32, .gcallv false false W25 [[(0, 1)]] 30 [31], none, []⟩ (fun r7 => [(32, qj r7.1)]) (fun r7 => [(300000, some (.cells [.ptr 5 1, .ptr 5 4, .ptr 5 5])), (5, some (.cells (Command.cells r7.2.1))), (7, some (.cells W9)), (1, some (.cells [ls a0])), (6, some (.cells [lj r7.2.2]))]) (fun r7 hr => pe (gv (ks := [300000, 5, 7, 1, 6]) (ARGS := [.one (.csl 300000 1 0 3), qp 7 0]) (caps := [.ptr 7 0]) (F87s5_ok _ _ _ _ _ hr))) (fun r7 => ?_))
     refine SimI.rd 1 [(10, qj r7.1)] [] (.thenN (.pr [1, 2, 5, 6, 7, 10] W100 [] (W43 r7) (W27 a0 r7) ?_))
     exact F72_j13_ok n a0 r7.2.1 r7.1 r7.2.2
    ·refine SimI.ite (c := r2 = 3) (fun cr2 => ?_) (fun _ => ?_)
     ·refine SimI.se ⟨some 31, .gcall false false W16 [[]] 47 [5], none, []⟩ [(31, .one (.csl 300000 1 0 2))] [(5, some (.cells (Command.cells r1.2.1))), (300000, some (.cells [.ptr 5 1, .ptr 5 2]))] (pe (eff_gcall (ks := [5]) (rks := []) (new := [300000]) (ARGS := [qp 5 0]) (args1 := [qp 5 0]) (args2 := [qp 1000000 0]) (os := [.cells (Command.cells r1.2.1)]) (os' := [.cells (Command.cells r1.2.1), .cells W115]) (os1 := [.cells (Command.cells r1.2.1), .cells W115]) (res := .one (.csl 1000001 1 0 2)) (res1 := .one (.csl 1000001 1 0 2)) (r := .one (.csl 300000 1 0 2)) (N := [(5, some (.cells (Command.cells r1.2.1))), (300000, some (.cells [.ptr 5 1, .ptr 5 2]))]) (by kernel_rfl) (readA_ow (readA_keep (by kernel_rfl) (readA_nil))) (by kernel_rfl) (by kernel_rfl) (by kernel_rfl) (by kernel_rfl) ((F47s0_ok _ _ _ hr2).trans (congrArg some (F47s0_e_3 r1.2.1 r2 cr2))) (by kernel_rfl) (by kernel_rfl) (by kernel_rfl) rfl (by kernel_rfl) (by kernel_rfl) (by kernel_rfl))) (.bn ⟨some 32, .gcallv false false W25 [[(0, 1)]] 30 [31], none, []⟩ (fun r6 => [(32, qj r6.1)]) (fun r6 => [(300000, some (.cells [.ptr 5 1, .ptr 5 2])), (5, some (.cells (Command.cells r6.2.1))), (7, some (.cells W9)), (1, some (.cells [ls a0])), (6, some (.cells [lj r6.2.2]))]) (fun r6 hr => pe (gv (ks := [300000, 5, 7, 1, 6]) (ARGS := [.one (.csl 300000 1 0 2), qp 7 0]) (caps := [.ptr 7 0]) (F87s4_ok _ _ _ _ _ hr))) (fun r6 => ?_))
      refine SimI.rd 1 [(10, qj r6.1)] [] (.thenN (.pr [1, 2, 5, 6, 7, 10] W100 [] (W43 r6) (W27 a0 r6) ?_))
      exact F72_j13_ok n a0 r6.2.1 r6.1 r6.2.2
     ·refine SimI.ite (c := r2 = 4) (fun cr2 => ?_) (fun _ => ?_)
      ·refine SimI.se ⟨some 31, .gcall false false W16 [[]] 47 [5], none, []⟩ [(31, .one (.csl 300000 1 0 1))] [(5, some (.cells (Command.cells r1.2.1))), (300000, some (.cells [.ptr 5 1]))] (pe (eff_gcall (ks := [5]) (rks := []) (new := [300000]) (ARGS := [qp 5 0]) (args1 := [qp 5 0]) (args2 := [qp 1000000 0]) (os := [.cells (Command.cells r1.2.1)]) (os' := [.cells (Command.cells r1.2.1), .cells [.ptr 1000000 1]]) (os1 := [.cells (Command.cells r1.2.1), .cells [.ptr 1000000 1]]) (res := .one (.csl 1000001 1 0 1)) (res1 := .one (.csl 1000001 1 0 1)) (r := .one (.csl 300000 1 0 1)) (N := [(5, some (.cells (Command.cells r1.2.1))), (300000, some (.cells [.ptr 5 1]))]) (by kernel_rfl) (readA_ow (readA_keep (by kernel_rfl) (readA_nil))) (by kernel_rfl) (by kernel_rfl) (by kernel_rfl) (by kernel_rfl) ((F47s0_ok _ _ _ hr2).trans (congrArg some (F47s0_e_4 r1.2.1 r2 cr2))) (by kernel_rfl) (by kernel_rfl) (by kernel_rfl) rfl (by kernel_rfl) (by kernel_rfl) (by kernel_rfl))) (.bn ⟨some 32, .gcallv false false W25 [[(0, 1)]] 30 [31], none, []⟩ (fun r5 => [(32, qj r5.1)]) (fun r5 => [(300000, some (.cells [.ptr 5 1])), (5, some (.cells (Command.cells r5.2.1))), (7, some (.cells W9)), (1, some (.cells [ls a0])), (6, some (.cells [lj r5.2.2]))]) (fun r5 hr => pe (gv (ks := [300000, 5, 7, 1, 6]) (ARGS := [.one (.csl 300000 1 0 1), qp 7 0]) (caps := [.ptr 7 0]) (F87s3_ok _ _ _ _ _ hr))) (fun r5 => ?_))
       refine SimI.rd 1 [(10, qj r5.1)] [] (.thenN (.pr [1, 2, 5, 6, 7, 10] W100 [] (W43 r5) (W27 a0 r5) ?_))
       exact F72_j13_ok n a0 r5.2.1 r5.1 r5.2.2
      ·refine SimI.ite (c := r2 = 5) (fun cr2 => ?_) (fun _ => ?_)
       ·refine SimI.se ⟨some 31, .gcall false false W16 [[]] 47 [5], none, []⟩ [(31, .one (.csl 300000 1 0 2))] [(5, some (.cells (Command.cells r1.2.1))), (300000, some (.cells [.ptr 5 2, .ptr 5 3]))] (pe (eff_gcall (ks := [5]) (rks := []) (new := [300000]) (ARGS := [qp 5 0]) (args1 := [qp 5 0]) (args2 := [qp 1000000 0]) (os := [.cells (Command.cells r1.2.1)]) (os' := [.cells (Command.cells r1.2.1), .cells W116]) (os1 := [.cells (Command.cells r1.2.1), .cells W116]) (res := .one (.csl 1000001 1 0 2)) (res1 := .one (.csl 1000001 1 0 2)) (r := .one (.csl 300000 1 0 2)) (N := [(5, some (.cells (Command.cells r1.2.1))), (300000, some (.cells [.ptr 5 2, .ptr 5 3]))]) (by kernel_rfl) (readA_ow (readA_keep (by kernel_rfl) (readA_nil))) (by kernel_rfl) (by kernel_rfl) (by kernel_rfl) (by kernel_rfl) ((F47s0_ok _ _ _ hr2).trans (congrArg some (F47s0_e_5 r1.2.1 r2 cr2))) (by kernel_rfl) (by kernel_rfl) (by kernel_rfl) rfl (by kernel_rfl) (by kernel_rfl) (by kernel_rfl))) (.bn ⟨some 32, .gcallv false false W25 [[(0, 1)]] 30 [31], none, []⟩ (fun r4 => [(32, qj r4.1)]) (fun r4 => [(300000, some (.cells [.ptr 5 2, .ptr 5 3])), (5, some (.cells (Command.cells r4.2.1))), (7, some (.cells W9)), (1, some (.cells [ls a0])), (6, some (.cells [lj r4.2.2]))]) (fun r4 hr => pe (gv (ks := [300000, 5, 7, 1, 6]) (ARGS := [.one (.csl 300000 1 0 2), qp 7 0]) (caps := [.ptr 7 0]) (F87s2_ok _ _ _ _ _ hr))) (fun r4 => ?_))
        refine SimI.rd 1 [(10, qj r4.1)] [] (.thenN (.pr [1, 2, 5, 6, 7, 10] W100 [] (W43 r4) (W27 a0 r4) ?_))
        exact F72_j13_ok n a0 r4.2.1 r4.1 r4.2.2
       ·refine SimI.ite (c := r2 = 6) (fun cr2 => ?_) (fun _ => ?_)
        ·refine SimI.se ⟨some 31, .gcall false false W16 [[]] 47 [5], none, []⟩ [(31, .one (.csl 300000 1 0 4))] [(5, some (.cells (Command.cells r1.2.1))), (300000, some (.cells W138))] (pe (eff_gcall (ks := [5]) (rks := []) (new := [300000]) (ARGS := [qp 5 0]) (args1 := [qp 5 0]) (args2 := [qp 1000000 0]) (os := [.cells (Command.cells r1.2.1)]) (os' := [.cells (Command.cells r1.2.1), .cells W53]) (os1 := [.cells (Command.cells r1.2.1), .cells W53]) (res := .one (.csl 1000001 1 0 4)) (res1 := .one (.csl 1000001 1 0 4)) (r := .one (.csl 300000 1 0 4)) (N := [(5, some (.cells (Command.cells r1.2.1))), (300000, some (.cells W138))]) (by kernel_rfl) (readA_ow (readA_keep (by kernel_rfl) (readA_nil))) (by kernel_rfl) (by kernel_rfl) (by kernel_rfl) (by kernel_rfl) ((F47s0_ok _ _ _ hr2).trans (congrArg some (F47s0_e_6 r1.2.1 r2 cr2))) (by kernel_rfl) (by kernel_rfl) (by kernel_rfl) rfl (by kernel_rfl) (by kernel_rfl) (by kernel_rfl))) (.bn ⟨some 32, .gcallv false false W25 [[(0, 1)]] 30 [31], none, []⟩ (fun r3 => [(32, qj r3.1)]) (fun r3 => [(300000, some (.cells W138)), (5, some (.cells (Command.cells r3.2.1))), (7, some (.cells W9)), (1, some (.cells [ls a0])), (6, some (.cells [lj r3.2.2]))]) (fun r3 hr => pe (gv (ks := [300000, 5, 7, 1, 6]) (ARGS := [.one (.csl 300000 1 0 4), qp 7 0]) (caps := [.ptr 7 0]) (F87s1_ok _ _ _ _ _ hr))) (fun r3 => ?_))
         refine SimI.rd 1 [(10, qj r3.1)] [] (.thenN (.pr [1, 2, 5, 6, 7, 10] W100 [] (W43 r3) (W27 a0 r3) ?_))
         exact F72_j13_ok n a0 r3.2.1 r3.1 r3.2.2
        ·exact SimI.vac rfl
def F42_e : (Note × Reader) → PV × List Ob := fun r => (.agg [li .i64 r.1.From, li .i64 r.1.Beat, vw Thing.cod r.1.Moved, vw Hand.cod r.1.Hands, vw Thing.cod r.1.Given, vw Command.cod r.1.Watch], [.cells (Reader.cells r.2)])
def F42_l28 (n : Nat) (r1 r2 : (Int × Reader)) (r3 : ((List Thing) × Reader)) (r4 : ((List Thing) × Reader)) (l14 : (List Hand)) (r18 : (Int × Reader)) : Nat → Reader → Int → (List Command) → Option (Note × Reader)
 | 0, _, _, _ => none
 | m + 1, g25, i26, l27 =>
  if decide (i26 < r18.1) then
   if g25.fails then
    some ((Note.mk r1.1 r2.1 r3.1 l14 r4.1 l27), g25)
   else
    if 0 ≤ (g25.at_ : Int) ∧ (g25.at_ : Int) ≤ (g25.s.size : Int) then
     (F72 n (g25.s.extract g25.at_.toNat g25.s.size)).bind fun (r29 : (Command × Int × Int)) =>
     (F73 n g25 r29.2.1 r29.2.2).bind fun (r30 : Reader) =>
     if ((l27).length + 1) * 216 ≤ maxCells ∧ (l27).length + 1 ≤ maxCells then
      (F42_l28 n r1 r2 r3 r4 l14 r18 m) r30 (IntKind.wrap .i64 (i26 + 1)) (l27 ++ [r29.1])
     else none
    else none
  else
   some ((Note.mk r1.1 r2.1 r3.1 l14 r4.1 l27), g25)
theorem F42_l28_ok (n : Nat) (r1 r2 : (Int × Reader)) (r3 : ((List Thing) × Reader)) (r4 : ((List Thing) × Reader)) (l14 : (List Hand)) (r18 : (Int × Reader)) : ∀ (m : Nat) (g25 : Reader) (i26 : Int) (l27 : (List Command)), SimL Try.prog D (n + 8) m p42c46 (W97 r18 i26) (W29 r1 r2 r3 l14 r4 l27 g25) (F42_l28 n r1 r2 r3 r4 l14 r18 m g25 i26 l27) (QB 2 (QT Try.prog D (n + 8) p42c52 (QF false pc42_r 1 F42_e))) := by
 intro m_l28
 induction m_l28 with
 | zero => intro g25 i26 l27; exact SimL.zero'  rfl
 | succ m_l28 ih_l28 =>
  intro g25 i26 l27
  refine SimL.succ ?_
  unfold F42_l28
  refine Sim.seq (.rg (W97 r18 i26) (W29 r1 r2 r3 l14 r4 l27 g25) (.rd 1 [(40, qb (decide (i26 < r18.1)))] [] (.thenN (.seq (.cd _ ?_ ?_)))))
  ·refine Sim.skip (.thenN (.seq (.block (.seq (.sr 4 [(44, qb g25.fails), (43, qp 1000000 2), (42, qp 1000000 0), (41, qp 1000000 0)] [] (.cd _ ?_ ?_))))))
   ·exact Sim.exit (.thenX (.blockY rfl (.thenX (.loopX (.blockX (.thenN (.sr 2 [(70, .agg (W4 r1 r2 r3 l14 r4 l27))] [(2, some (.cells (W4 r1 r2 r3 l14 r4 l27)))] (.ret (.fin (out_with (vs := [.agg (Note.cells (Note.mk r1.1 r2.1 r3.1 l14 r4.1 l27))]) (ress_cons (resOf_cagg (k := 2) (off := 0) (c0 := (W4 r1 r2 r3 l14 r4 l27)) (cs := (W4 r1 r2 r3 l14 r4 l27)) (by kernel_rfl) (by kernel_rfl) (by kernel_rfl) (finL_keep (by kernel_rfl) (finL_keep (by kernel_rfl) (finL_keep (by kernel_rfl) (finL_own (c := Hand.cod) (k := 100027) (g := 0) (el := 44) (l := l14) (by kernel_rfl) (by kernel_rfl) (finL_keep (by kernel_rfl) (finL_own (c := Command.cod) (k := 100064) (g := 0) (el := 53) (l := l27) (by kernel_rfl) (by kernel_rfl) (finL_nil))))))) (by kernel_rfl)) (ress_nil)) (by kernel_rfl)))))))))))
   ·refine Sim.skip (.thenN (.st 8 ([(53, qj g25.at_), (52, qp 1000000 1), (51, qp 1000000 0), (50, qp 1000000 0), (49, qs g25.s)] ++ rp [48, 47, 46] (qp 1000000 0)) [] (.gp 54 (.slice 9 true false) [49, 53] none [(49, .imm), (53, .imm)] (fun hc => pr_cutL (s := g25.s) (k := .i64) (a := g25.at_) Try.underlying9 hc) (.cm 55 false [[]] 72 [54] none [(54, .imm)] (F72_ok _ _) (fun r29 => ?_)))))
    refine SimI.rd 8 (W101 r29) [(4, some (.cells (Command.cells r29.1))), (4, some (.cells W0))] (.thenN (.st 3 [(61, qj r29.2.2), (60, qj r29.2.1), (59, qp 1000000 0)] [] (.bn ⟨some 62, .call true [[], [], []] 73 [59, 60, 61], none, []⟩ (fun r30 => [(62, tz)]) (fun r30 => (W62 r30)) (fun r30 hr => pe (qc (ARGS := [qp 1000000 0, qj r29.2.1, qj r29.2.2]) (ks := [1000000]) (os := [(Reader.cells g25)]) (os' := [(Reader.cells r30)]) (F73_ok _ _ _ _ _ hr))) (fun r30 => ?_))))
    refine SimI.dn (.thenN (.region0 (.rn 4 [(66, .one (vw Command.cod [r29.1])), (65, .agg (Command.cells r29.1)), (64, .one (.osl 100064 0 0 (l27).length)), (63, qp 3 5)] [] (.gu ⟨some 67, .app 100064 53 22 216 64 66, none, []⟩ [(67, .one (.osl 100064 (0 + 1) 0 ((l27 ++ [r29.1])).length))] [(100064, some (.arr 53 Command.cod.sz (0 + 1) ((l27 ++ [r29.1])).length (getOf Command.cod (l27 ++ [r29.1]))))] (fun hc => pe (eff_appO (c := Command.cod) (g := 0) (l := l27) (a := r29.1) (by kernel_rfl) (by kernel_rfl) (by kernel_rfl) (by kernel_rfl) hc)) (.rd 2 [(68, qp 3 5)] [(3, some (.cells [lj r1.1, lj r2.1, vw Thing.cod r3.1, .osl 100027 0 0 (l14).length, vw Thing.cod r4.1, .osl 100064 (0 + 1) 0 ((l27 ++ [r29.1])).length]))] (.blockN (.thenN (.region0 (.rd 2 (rp [39, 69] (qj (iw .i64 (i26 + 1)))) [] (.loopN (.pr [0, 2, 3, 38, 39] W131 [(true, 3, 5, 100064, 53, 22)] [(0, qp 1000000 0), (2, qp 2 0), (3, qp 3 0), (38, qj r18.1), (39, qj (iw .i64 (i26 + 1)))] (W110 r1 r2 r3 l14 r4 l27 r29 r30) ?_)))))))))))
    exact ih_l28 r30 (iw .i64 (i26 + 1)) (l27 ++ [r29.1])
  ·exact Sim.exit (.thenX (.loopX (.blockX (.thenN (.sr 2 [(70, .agg (W4 r1 r2 r3 l14 r4 l27))] [(2, some (.cells (W4 r1 r2 r3 l14 r4 l27)))] (.ret (.fin (out_with (vs := [.agg (Note.cells (Note.mk r1.1 r2.1 r3.1 l14 r4.1 l27))]) (ress_cons (resOf_cagg (k := 2) (off := 0) (c0 := (W4 r1 r2 r3 l14 r4 l27)) (cs := (W4 r1 r2 r3 l14 r4 l27)) (by kernel_rfl) (by kernel_rfl) (by kernel_rfl) (finL_keep (by kernel_rfl) (finL_keep (by kernel_rfl) (finL_keep (by kernel_rfl) (finL_own (c := Hand.cod) (k := 100027) (g := 0) (el := 44) (l := l14) (by kernel_rfl) (by kernel_rfl) (finL_keep (by kernel_rfl) (finL_own (c := Command.cod) (k := 100064) (g := 0) (el := 53) (l := l27) (by kernel_rfl) (by kernel_rfl) (finL_nil))))))) (by kernel_rfl)) (ress_nil)) (by kernel_rfl)))))))))
def F42_l41 (n : Nat) (r1 r2 : (Int × Reader)) (r3 : ((List Thing) × Reader)) (r4 : ((List Thing) × Reader)) (l14 : (List Hand)) (r31 : (Int × Reader)) : Nat → Reader → Int → (List Command) → Option (Note × Reader)
 | 0, _, _, _ => none
 | m + 1, g38, i39, l40 =>
  if decide (i39 < r31.1) then
   if g38.fails then
    some ((Note.mk r1.1 r2.1 r3.1 l14 r4.1 l40), g38)
   else
    if 0 ≤ (g38.at_ : Int) ∧ (g38.at_ : Int) ≤ (g38.s.size : Int) then
     (F72 n (g38.s.extract g38.at_.toNat g38.s.size)).bind fun (r42 : (Command × Int × Int)) =>
     (F73 n g38 r42.2.1 r42.2.2).bind fun (r43 : Reader) =>
     if ((l40).length + 1) * 216 ≤ maxCells ∧ (l40).length + 1 ≤ maxCells then
      (F42_l41 n r1 r2 r3 r4 l14 r31 m) r43 (IntKind.wrap .i64 (i39 + 1)) (l40 ++ [r42.1])
     else none
    else none
  else
   some ((Note.mk r1.1 r2.1 r3.1 l14 r4.1 l40), g38)
theorem F42_l41_ok (n : Nat) (r1 r2 : (Int × Reader)) (r3 : ((List Thing) × Reader)) (r4 : ((List Thing) × Reader)) (l14 : (List Hand)) (r31 : (Int × Reader)) : ∀ (m : Nat) (g38 : Reader) (i39 : Int) (l40 : (List Command)), SimL Try.prog D (n + 8) m p42c46 (W97 r31 i39) (W29 r1 r2 r3 l14 r4 l40 g38) (F42_l41 n r1 r2 r3 r4 l14 r31 m g38 i39 l40) (QB 2 (QT Try.prog D (n + 8) p42c52 (QF false pc42_r 1 F42_e))) := by
 intro m_l41
 induction m_l41 with
 | zero => intro g38 i39 l40; exact SimL.zero'  rfl
 | succ m_l41 ih_l41 =>
  intro g38 i39 l40
  refine SimL.succ ?_
  unfold F42_l41
  refine Sim.seq (.rg (W97 r31 i39) (W29 r1 r2 r3 l14 r4 l40 g38) (.rd 1 [(40, qb (decide (i39 < r31.1)))] [] (.thenN (.seq (.cd _ ?_ ?_)))))
  ·refine Sim.skip (.thenN (.seq (.block (.seq (.sr 4 [(44, qb g38.fails), (43, qp 1000000 2), (42, qp 1000000 0), (41, qp 1000000 0)] [] (.cd _ ?_ ?_))))))
   ·exact Sim.exit (.thenX (.blockY rfl (.thenX (.loopX (.blockX (.thenN (.sr 2 [(70, .agg (W4 r1 r2 r3 l14 r4 l40))] [(2, some (.cells (W4 r1 r2 r3 l14 r4 l40)))] (.ret (.fin (out_with (vs := [.agg (Note.cells (Note.mk r1.1 r2.1 r3.1 l14 r4.1 l40))]) (ress_cons (resOf_cagg (k := 2) (off := 0) (c0 := (W4 r1 r2 r3 l14 r4 l40)) (cs := (W4 r1 r2 r3 l14 r4 l40)) (by kernel_rfl) (by kernel_rfl) (by kernel_rfl) (finL_keep (by kernel_rfl) (finL_keep (by kernel_rfl) (finL_keep (by kernel_rfl) (finL_own (c := Hand.cod) (k := 100027) (g := 0) (el := 44) (l := l14) (by kernel_rfl) (by kernel_rfl) (finL_keep (by kernel_rfl) (finL_own (c := Command.cod) (k := 100064) (g := 0) (el := 53) (l := l40) (by kernel_rfl) (by kernel_rfl) (finL_nil))))))) (by kernel_rfl)) (ress_nil)) (by kernel_rfl)))))))))))
   ·refine Sim.skip (.thenN (.st 8 ([(53, qj g38.at_), (52, qp 1000000 1), (51, qp 1000000 0), (50, qp 1000000 0), (49, qs g38.s)] ++ rp [48, 47, 46] (qp 1000000 0)) [] (.gp 54 (.slice 9 true false) [49, 53] none [(49, .imm), (53, .imm)] (fun hc => pr_cutL (s := g38.s) (k := .i64) (a := g38.at_) Try.underlying9 hc) (.cm 55 false [[]] 72 [54] none [(54, .imm)] (F72_ok _ _) (fun r42 => ?_)))))
    refine SimI.rd 8 (W101 r42) [(4, some (.cells (Command.cells r42.1))), (4, some (.cells W0))] (.thenN (.st 3 [(61, qj r42.2.2), (60, qj r42.2.1), (59, qp 1000000 0)] [] (.bn ⟨some 62, .call true [[], [], []] 73 [59, 60, 61], none, []⟩ (fun r43 => [(62, tz)]) (fun r43 => (W62 r43)) (fun r43 hr => pe (qc (ARGS := [qp 1000000 0, qj r42.2.1, qj r42.2.2]) (ks := [1000000]) (os := [(Reader.cells g38)]) (os' := [(Reader.cells r43)]) (F73_ok _ _ _ _ _ hr))) (fun r43 => ?_))))
    refine SimI.dn (.thenN (.region0 (.rn 4 [(66, .one (vw Command.cod [r42.1])), (65, .agg (Command.cells r42.1)), (64, .one (.osl 100064 0 0 (l40).length)), (63, qp 3 5)] [] (.gu ⟨some 67, .app 100064 53 22 216 64 66, none, []⟩ [(67, .one (.osl 100064 (0 + 1) 0 ((l40 ++ [r42.1])).length))] [(100064, some (.arr 53 Command.cod.sz (0 + 1) ((l40 ++ [r42.1])).length (getOf Command.cod (l40 ++ [r42.1]))))] (fun hc => pe (eff_appO (c := Command.cod) (g := 0) (l := l40) (a := r42.1) (by kernel_rfl) (by kernel_rfl) (by kernel_rfl) (by kernel_rfl) hc)) (.rd 2 [(68, qp 3 5)] [(3, some (.cells [lj r1.1, lj r2.1, vw Thing.cod r3.1, .osl 100027 0 0 (l14).length, vw Thing.cod r4.1, .osl 100064 (0 + 1) 0 ((l40 ++ [r42.1])).length]))] (.blockN (.thenN (.region0 (.rd 2 (rp [39, 69] (qj (iw .i64 (i39 + 1)))) [] (.loopN (.pr [0, 2, 3, 38, 39] W131 [(true, 3, 5, 100064, 53, 22)] [(0, qp 1000000 0), (2, qp 2 0), (3, qp 3 0), (38, qj r31.1), (39, qj (iw .i64 (i39 + 1)))] (W110 r1 r2 r3 l14 r4 l40 r42 r43) ?_)))))))))))
    exact ih_l41 r43 (iw .i64 (i39 + 1)) (l40 ++ [r42.1])
  ·exact Sim.exit (.thenX (.loopX (.blockX (.thenN (.sr 2 [(70, .agg (W4 r1 r2 r3 l14 r4 l40))] [(2, some (.cells (W4 r1 r2 r3 l14 r4 l40)))] (.ret (.fin (out_with (vs := [.agg (Note.cells (Note.mk r1.1 r2.1 r3.1 l14 r4.1 l40))]) (ress_cons (resOf_cagg (k := 2) (off := 0) (c0 := (W4 r1 r2 r3 l14 r4 l40)) (cs := (W4 r1 r2 r3 l14 r4 l40)) (by kernel_rfl) (by kernel_rfl) (by kernel_rfl) (finL_keep (by kernel_rfl) (finL_keep (by kernel_rfl) (finL_keep (by kernel_rfl) (finL_own (c := Hand.cod) (k := 100027) (g := 0) (el := 44) (l := l14) (by kernel_rfl) (by kernel_rfl) (finL_keep (by kernel_rfl) (finL_own (c := Command.cod) (k := 100064) (g := 0) (el := 53) (l := l40) (by kernel_rfl) (by kernel_rfl) (finL_nil))))))) (by kernel_rfl)) (ress_nil)) (by kernel_rfl)))))))))
def F42_l15 (n : Nat) (r1 r2 : (Int × Reader)) (r3 : ((List Thing) × Reader)) (r4 : ((List Thing) × Reader)) (r5 : (Int × Reader)) : Nat → Reader → Int → (List Hand) → Option (Note × Reader)
 | 0, _, _, _ => none
 | m + 1, g12, i13, l14 =>
  if decide (i13 < r5.1) then
   if g12.fails then
    (F70 n g12 20).bind fun (r18 : (Int × Reader)) =>
    F42_l28 n r1 r2 r3 r4 l14 r18 (n + 8) r18.2 0 ([] : List Command)
   else
    (F70 n g12 16).bind fun (r16 : (Int × Reader)) =>
    (F70 n r16.2 4).bind fun (r17 : (Int × Reader)) =>
    if ((l14).length + 1) * 16 ≤ maxCells ∧ (l14).length + 1 ≤ maxCells then
     (F42_l15 n r1 r2 r3 r4 r5 m) r17.2 (IntKind.wrap .i64 (i13 + 1)) (l14 ++ [(Hand.mk r16.1 r17.1)])
    else none
  else
   (F70 n g12 20).bind fun (r31 : (Int × Reader)) =>
   F42_l41 n r1 r2 r3 r4 l14 r31 (n + 8) r31.2 0 ([] : List Command)
theorem F42_l15_ok (n : Nat) (r1 r2 : (Int × Reader)) (r3 : ((List Thing) × Reader)) (r4 : ((List Thing) × Reader)) (r5 : (Int × Reader)) : ∀ (m : Nat) (g12 : Reader) (i13 : Int) (l14 : (List Hand)), SimL Try.prog D (n + 8) m p42c21 [(0, qp 1000000 0), (2, qp 2 0), (3, qp 3 0), (19, qj r5.1), (20, qj i13)] [(2, some (.cells W10)), (3, some (.cells [lj r1.1, lj r2.1, vw Thing.cod r3.1, .osl 100027 0 0 (l14).length, vw Thing.cod r4.1, lnil])), (100027, some (.arr 44 Hand.cod.sz 0 (l14).length (getOf Hand.cod l14))), (1000000, some (.cells (Reader.cells g12)))] (F42_l15 n r1 r2 r3 r4 r5 m g12 i13 l14) (QB 0 (QT Try.prog D (n + 8) p42c54 (QF false pc42_r 1 F42_e))) := by
 intro m_l15
 induction m_l15 with
 | zero => intro g12 i13 l14; exact SimL.zero'  rfl
 | succ m_l15 ih_l15 =>
  intro g12 i13 l14
  refine SimL.succ ?_
  unfold F42_l15
  refine Sim.seq (.rg [(0, qp 1000000 0), (2, qp 2 0), (3, qp 3 0), (19, qj r5.1), (20, qj i13)] [(2, some (.cells W10)), (3, some (.cells [lj r1.1, lj r2.1, vw Thing.cod r3.1, .osl 100027 0 0 (l14).length, vw Thing.cod r4.1, lnil])), (100027, some (.arr 44 Hand.cod.sz 0 (l14).length (getOf Hand.cod l14))), (1000000, some (.cells (Reader.cells g12)))] (.rd 1 [(21, qb (decide (i13 < r5.1)))] [] (.thenN (.seq (.cd _ ?_ ?_)))))
  ·refine Sim.skip (.thenN (.seq (.block (.seq (.sr 4 [(25, qb g12.fails), (24, qp 1000000 2), (23, qp 1000000 0), (22, qp 1000000 0)] [] (.cd _ ?_ ?_))))))
   ·refine Sim.exit (.thenX (.blockY rfl (.thenX (.loopX (.blockX (.thenN (.seq (.label (.thenN (.seq (.st 1 [(37, qp 1000000 0)] [] (.bn ⟨some 38, .call true [[], []] 70 [37, Operand.const (Value.int IntKind.u64 20)], none, []⟩ (fun r18 => [(38, qj r18.1)]) (fun r18 => (W72 r18)) (fun r18 hr => pe (qc (ARGS := [qp 1000000 0, .one (li .u64 20)]) (ks := [1000000]) (os := [(Reader.cells g12)]) (os' := [(Reader.cells r18.2)]) (F70_ok _ _ _ _ hr))) (fun r18 => ?_)))))))))))))
    refine SimI.rd 1 [(39, qj 0)] [] (.thenN (.block (.loop (.pr [0, 2, 3, 38, 39] W131 [(true, 3, 5, 100064, 53, 22)] [(0, qp 1000000 0), (2, qp 2 0), (3, qp 3 0), (38, qj r18.1), (39, qj 0)] (W69 r1 r2 r3 l14 r4 r18) ?_))))
    exact F42_l28_ok n r1 r2 r3 r4 l14 r18 (n + 8) r18.2 0 ([] : List Command)
   ·refine Sim.skip (.thenN (.region0 (.rn 3 [(28, qp 1000000 0), (27, .one (.osl 100027 0 0 (l14).length)), (26, qp 3 3)] [] (.bn ⟨some 29, .call true [[], []] 70 [28, Operand.const (Value.int IntKind.u64 16)], none, [(28, .at_ 1000000 0)]⟩ (fun r16 => [(29, qj r16.1)]) (fun r16 => (W72 r16)) (fun r16 hr => pe (qc (ARGS := [qp 1000000 0, .one (li .u64 16)]) (ks := [1000000]) (os := [(Reader.cells g12)]) (os' := [(Reader.cells r16.2)]) (F70_ok _ _ _ _ hr))) (fun r16 => ?_)))))
    refine SimI.rn 1 [(30, qp 1000000 0)] [] (.bn ⟨some 31, .call true [[], []] 70 [30, Operand.const (Value.int IntKind.u64 4)], none, [(30, .at_ 1000000 0)]⟩ (fun r17 => [(31, qj r17.1)]) (fun r17 => (W72 r17)) (fun r17 hr => pe (qc (ARGS := [qp 1000000 0, .one (li .u64 4)]) (ks := [1000000]) (os := [(Reader.cells r16.2)]) (os' := [(Reader.cells r17.2)]) (F70_ok _ _ _ _ hr))) (fun r17 => ?_))
    refine SimI.rn 2 [(33, .one (vw Hand.cod [(Hand.mk r16.1 r17.1)])), (32, .agg [lj r16.1, lj r17.1])] [] (.gu ⟨some 34, .app 100027 44 2 16 27 33, none, [(27, Hint.obj 100027), (33, .imm)]⟩ [(34, .one (.osl 100027 (0 + 1) 0 ((l14 ++ [(Hand.mk r16.1 r17.1)])).length))] [(100027, some (.arr 44 Hand.cod.sz (0 + 1) ((l14 ++ [(Hand.mk r16.1 r17.1)])).length (getOf Hand.cod (l14 ++ [(Hand.mk r16.1 r17.1)]))))] (fun hc => pe (eff_appO (c := Hand.cod) (g := 0) (l := l14) (a := (Hand.mk r16.1 r17.1)) (by kernel_rfl) (by kernel_rfl) (by kernel_rfl) (by kernel_rfl) hc)) (.rd 2 [(35, qp 3 3)] [(3, some (.cells [lj r1.1, lj r2.1, vw Thing.cod r3.1, .osl 100027 (0 + 1) 0 ((l14 ++ [(Hand.mk r16.1 r17.1)])).length, vw Thing.cod r4.1, lnil]))] (.blockN (.thenN (.region0 (.rd 2 (rp [20, 36] (qj (iw .i64 (i13 + 1)))) [] (.loopN (.pr [0, 2, 3, 19, 20] [2, 3, 100027, 1000000] [(true, 3, 3, 100027, 44, 2)] [(0, qp 1000000 0), (2, qp 2 0), (3, qp 3 0), (19, qj r5.1), (20, qj (iw .i64 (i13 + 1)))] [(2, some (.cells W10)), (3, some (.cells [lj r1.1, lj r2.1, vw Thing.cod r3.1, .osl 100027 0 0 ((l14 ++ [(Hand.mk r16.1 r17.1)])).length, vw Thing.cod r4.1, lnil])), (100027, some (.arr 44 Hand.cod.sz 0 ((l14 ++ [(Hand.mk r16.1 r17.1)])).length (getOf Hand.cod (l14 ++ [(Hand.mk r16.1 r17.1)])))), (1000000, some (.cells (Reader.cells r17.2)))] ?_))))))))
    exact ih_l15 r17.2 (iw .i64 (i13 + 1)) (l14 ++ [(Hand.mk r16.1 r17.1)])
  ·refine Sim.exit (.thenX (.loopX (.blockX (.thenN (.seq (.label (.thenN (.seq (.st 1 [(37, qp 1000000 0)] [] (.bn ⟨some 38, .call true [[], []] 70 [37, Operand.const (Value.int IntKind.u64 20)], none, []⟩ (fun r31 => [(38, qj r31.1)]) (fun r31 => (W72 r31)) (fun r31 hr => pe (qc (ARGS := [qp 1000000 0, .one (li .u64 20)]) (ks := [1000000]) (os := [(Reader.cells g12)]) (os' := [(Reader.cells r31.2)]) (F70_ok _ _ _ _ hr))) (fun r31 => ?_)))))))))))
   refine SimI.rd 1 [(39, qj 0)] [] (.thenN (.block (.loop (.pr [0, 2, 3, 38, 39] W131 [(true, 3, 5, 100064, 53, 22)] [(0, qp 1000000 0), (2, qp 2 0), (3, qp 3 0), (38, qj r31.1), (39, qj 0)] (W69 r1 r2 r3 l14 r4 r31) ?_))))
   exact F42_l41_ok n r1 r2 r3 r4 l14 r31 (n + 8) r31.2 0 ([] : List Command)
def F42 (n : Nat) (a0 : Reader) : Option (Note × Reader) :=
 (F70 n a0 4).bind fun (r1 : (Int × Reader)) =>
 (F70 n r1.2 1073741824).bind fun (r2 : (Int × Reader)) =>
 (F71 n r2.2).bind fun (r3 : ((List Thing) × Reader)) =>
 (F71 n r3.2).bind fun (r4 : ((List Thing) × Reader)) =>
 (F70 n r4.2 16).bind fun (r5 : (Int × Reader)) =>
 F42_l15 n r1 r2 r3 r4 r5 (n + 8) r5.2 0 ([] : List Hand)
theorem F42_ok (n : Nat) (a0 : Reader) : ∀ r, F42 n a0 = some r → D 42 [.one (.ptr 1000000 0)] [.cells (Reader.cells a0)] = some (F42_e r) := by
 refine fn_to (D := D) (n := n + 8) (nt := 71) (rs := pc42_r) (c := p42c60) (L := [(0, qp 1000000 0)]) (M := (W62 a0)) (k := 1) rfl rfl rfl rfl rfl rfl rfl ?_
 unfold F42
 refine Sim.sr 1 [(2, qp 2 0)] [(2, some (.cells W10))] (.scope (.st 1 [(7, qp 1000000 0)] [] (.bn ⟨some 8, .call true [[], []] 70 [7, Operand.const (Value.int IntKind.u64 4)], none, []⟩ (fun r1 => [(8, qj r1.1)]) (fun r1 => (W72 r1)) (fun r1 hr => pe (qc (ARGS := [qp 1000000 0, .one (li .u64 4)]) (ks := [1000000]) (os := [(Reader.cells a0)]) (os' := [(Reader.cells r1.2)]) (F70_ok _ _ _ _ hr))) (fun r1 => ?_))))
 refine SimI.rn 1 [(9, qp 1000000 0)] [] (.bn ⟨some 10, .call true [[], []] 70 [9, Operand.const (Value.int IntKind.u64 1073741824)], none, []⟩ (fun r2 => [(10, qj r2.1)]) (fun r2 => (W72 r2)) (fun r2 hr => pe (qc (ARGS := [qp 1000000 0, .one (li .u64 1073741824)]) (ks := [1000000]) (os := [(Reader.cells r1.2)]) (os' := [(Reader.cells r2.2)]) (F70_ok _ _ _ _ hr))) (fun r2 => ?_))
 refine SimI.rd 3 [(3, qp 3 0), (11, .agg [lj r1.1, lj r2.1, lnil, lnil, lnil, lnil])] [(3, some (.cells [lj r1.1, lj r2.1, lnil, lnil, lnil, lnil])), (3, some (.cells W10))] (.thenN (.st 1 [(12, qp 1000000 0)] [] (.bn ⟨some 13, .call true [[]] 71 [12], none, []⟩ (fun r3 => [(13, .one (vw Thing.cod r3.1))]) (fun r3 => [(1000000, some (.cells (Reader.cells r3.2)))]) (fun r3 hr => pe (qc (ARGS := [qp 1000000 0]) (ks := [1000000]) (os := [(Reader.cells r2.2)]) (os' := [(Reader.cells r3.2)]) (F71_ok _ _ _ hr))) (fun r3 => ?_))))
 refine SimI.rn 1 [(14, qp 1000000 0)] [] (.bn ⟨some 15, .call true [[]] 71 [14], none, []⟩ (fun r4 => [(15, .one (vw Thing.cod r4.1))]) (fun r4 => [(1000000, some (.cells (Reader.cells r4.2)))]) (fun r4 hr => pe (qc (ARGS := [qp 1000000 0]) (ks := [1000000]) (os := [(Reader.cells r3.2)]) (os' := [(Reader.cells r4.2)]) (F71_ok _ _ _ hr))) (fun r4 => ?_))
 refine SimI.rd 4 [(17, qp 3 4), (16, qp 3 2)] [(3, some (.cells [lj r1.1, lj r2.1, vw Thing.cod r3.1, lnil, vw Thing.cod r4.1, lnil])), (3, some (.cells [lj r1.1, lj r2.1, vw Thing.cod r3.1, lnil, lnil, lnil]))] (.thenN (.seq (.label (.thenN (.seq (.st 1 [(18, qp 1000000 0)] [] (.bn ⟨some 19, .call true [[], []] 70 [18, Operand.const (Value.int IntKind.u64 16)], none, []⟩ (fun r5 => [(19, qj r5.1)]) (fun r5 => (W72 r5)) (fun r5 hr => pe (qc (ARGS := [qp 1000000 0, .one (li .u64 16)]) (ks := [1000000]) (os := [(Reader.cells r4.2)]) (os' := [(Reader.cells r5.2)]) (F70_ok _ _ _ _ hr))) (fun r5 => ?_))))))))
 refine SimI.rd 1 [(20, qj 0)] [] (.thenN (.block (.loop (.pr [0, 2, 3, 19, 20] [2, 3, 100027, 1000000] [(true, 3, 3, 100027, 44, 2)] [(0, qp 1000000 0), (2, qp 2 0), (3, qp 3 0), (19, qj r5.1), (20, qj 0)] [(2, some (.cells W10)), (3, some (.cells [lj r1.1, lj r2.1, vw Thing.cod r3.1, .osl 100027 0 0 (([] : List Hand)).length, vw Thing.cod r4.1, lnil])), (100027, some (.arr 44 Hand.cod.sz 0 (([] : List Hand)).length (getOf Hand.cod ([] : List Hand)))), (1000000, some (.cells (Reader.cells r5.2)))] ?_))))
 exact F42_l15_ok n r1 r2 r3 r4 r5 (n + 8) r5.2 0 ([] : List Hand)
def F14_e : (Note × Int × Int) → PV × List Ob := fun r => (.tup [.agg [li .i64 r.1.From, li .i64 r.1.Beat, vw Thing.cod r.1.Moved, vw Hand.cod r.1.Hands, vw Thing.cod r.1.Given, vw Command.cod r.1.Watch], .one (li .i64 r.2.1), .one (li .i64 r.2.2)], [])
def F14 (n : Nat) (a0 : ByteArray) : Option (Note × Int × Int) :=
 (F41 n a0).bind fun (r1 : (ByteArray × Int × Int)) =>
 if r1.2.2 != 0 then
  some ((Note.mk 0 0 [] [] [] []), 0, r1.2.2)
 else
  (F42 n (Reader.mk r1.1 0 false)).bind fun (r2 : (Note × Reader)) =>
  (F9 n r2.1).bind fun (r3 : (ByteArray × Int)) =>
  if r2.2.fails then
   some ((Note.mk 0 0 [] [] [] []), 0, 11)
  else
   if r3.2 != 0 then
    some ((Note.mk 0 0 [] [] [] []), 0, 11)
   else
    if 0 ≤ (r1.2.1 : Int) ∧ (r1.2.1 : Int) ≤ (a0.size : Int) then
     if !(r3.1.toList == (a0.extract 0 r1.2.1.toNat).toList) then
      some ((Note.mk 0 0 [] [] [] []), 0, 11)
     else
      some (r2.1, r1.2.1, 0)
    else none
theorem F14_ok (n : Nat) (a0 : ByteArray) : ∀ r, F14 n a0 = some r → D 14 [.one (ls a0)] [] = some (F14_e r) := by
 refine fn_to (D := D) (n := n + 8) (nt := 50) (rs := pc14_r) (c := p14c29) (L := [(0, qs a0)]) (M := []) (k := 0) rfl rfl rfl rfl rfl rfl rfl ?_
 unfold F14
 refine Sim.sr 3 [(4, qj 0), (3, qj 0), (2, qp 2 0)] [(2, some (.cells W10))] (.st 1 [(13, qs a0)] [] (.cl 14 true [[]] 41 [13] none (fun r1 => .tup (W85 r1)) [qs a0] (F41_ok _ _) (fun r1 => ?_)))
 refine SimI.rd 7 [(7, qj r1.2.2), (6, qj r1.2.1), (5, qs r1.1), (17, qj r1.2.2), (16, qj r1.2.1), (15, qs r1.1), (12, .tup (W85 r1))] [] (.thenN (.seq (.sr 2 [(19, qb (r1.2.2 != 0)), (18, qj r1.2.2)] [] (.cd _ ?_ ?_))))
 ·exact Sim.sr 5 [(4, qj r1.2.2), (3, qj 0), (21, qj r1.2.2), (20, .agg W10)] [(2, some (.cells W10))] (.ret (.thenR .fn))
 ·refine Sim.skip (.thenN (.sr 4 [(8, qp 24 0), (24, qp 24 0), (23, .agg [ls r1.1, lj 0, lb false]), (22, qs r1.1)] [(24, some (.cells [ls r1.1, lj 0, lb false]))] (.st 1 [(25, qp 24 0)] [] (.bn ⟨some 26, .call true [[]] 42 [25], none, []⟩ (fun r2 => [(26, .agg (W28 r2))]) (fun r2 => [(24, some (.cells (Reader.cells r2.2)))]) (fun r2 hr => pe (qc (ARGS := [qp 24 0]) (ks := [24]) (os := [[ls r1.1, lj 0, lb false]]) (os' := [(Reader.cells r2.2)]) (F42_ok _ _ _ hr))) (fun r2 => ?_)))))
  refine SimI.rd 2 [(9, qp 9 0)] [(9, some (.cells (W28 r2))), (9, some (.cells W10))] (.thenN (.seq (.st 1 [(28, .agg (W28 r2))] [] (.cl 29 true [[(2, 11), (3, 2), (4, 11), (5, 22)]] 9 [28] none (fun r3 => .tup [qs r3.1, qj r3.2]) [.agg (W28 r2)] (F9_ok _ _) (fun r3 => ?_)))))
  refine SimI.rd 5 [(11, qj r3.2), (10, qs r3.1), (31, qj r3.2), (30, qs r3.1), (27, .tup [qs r3.1, qj r3.2])] [] (.thenN (.st 5 [(36, qb r2.2.fails), (35, qb r2.2.fails), (34, qp 24 2), (33, qp 24 0), (32, qp 24 0)] [] (.sp 36 _ ?_ ?_)))
  ·exact SimI.rd 10 ([(46, qb true)] ++ rp [45, 44, 43, 42, 41] tz ++ [(40, qb true), (39, qb true), (38, tz), (37, tz)]) [] (.thenN (.ct (.sr 4 [(4, qj 11), (3, qj 0), (47, .agg W10)] [(2, some (.cells W10))] (.ret (.thenR .fn)))))
  ·refine SimI.rn 4 (rp [40, 39, 38] (qb (r3.2 != 0)) ++ [(37, qj r3.2)]) [] (.sp 40 _ ?_ ?_)
   ·exact SimI.rd 6 ([(46, qb true)] ++ rp [45, 44, 43, 42, 41] tz) [] (.thenN (.ct (.sr 4 [(4, qj 11), (3, qj 0), (47, .agg W10)] [(2, some (.cells W10))] (.ret (.thenR .fn)))))
   ·refine SimI.rn 3 [(43, qj r1.2.1), (42, qs a0), (41, qs r3.1)] [] (.gp 44 (.slice 9 false true) [42, 43] (some (40, false)) [] (fun hc => pr_cutH (s := a0) (l := .i64) (b := r1.2.1) Try.underlying9 hc) (.rd 2 (rp [46, 45] (qb (!(r3.1.toList == (a0.extract 0 r1.2.1.toNat).toList)))) [] (.thenN (.cd _ ?_ ?_))))
    ·exact Sim.sr 4 [(4, qj 11), (3, qj 0), (47, .agg W10)] [(2, some (.cells W10))] (.ret (.thenR .fn))
    ·exact Sim.skip (.thenN (.sr 5 [(4, qj 0), (3, qj r1.2.1), (49, qj r1.2.1), (48, .agg (W28 r2))] [(2, some (.cells (W28 r2)))] (.ret .fn)))
theorem F7_ok (n : Nat) : ∀ r, (some true : Option Bool) = some r → D 7 [] [] = some (.one (lb r), []) := by
 rintro _ ⟨⟩
 exact all_of (N := 60) (by kernel_rfl)
def F16_e : Bool → PV × List Ob := fun r => (.one (lb r), [])
def F16 (n : Nat) (a0 : Command) : Option Bool :=
 if decide ((40 : Int) < (a0.F.a0.Text.size : Int)) then
  some false
 else
  if decide ((40 : Int) < (a0.F.a1.Text.size : Int)) then
   some false
  else
   if decide ((40 : Int) < (a0.F.a2.Text.size : Int)) then
    some false
   else
    if decide ((40 : Int) < (a0.F.a3.Text.size : Int)) then
     some false
    else
     some (decide ((a0.Value.Text.size : Int) ≤ 40))
theorem F16_ok (n : Nat) (a0 : Command) : ∀ r, F16 n a0 = some r → D 16 [.agg (Command.cells a0)] [] = some (F16_e r) := by
 refine fn_to (D := D) (n := n + 8) (nt := 20) (rs := pc16_r) (c := p16c26) (L := (W141 a0)) (M := []) (k := 0) rfl rfl rfl rfl rfl rfl rfl ?_
 unfold F16
 refine Sim.sr 2 W56 (W7 a0) (.seq (.sr 1 [(3, qj 0)] [] (.block (.loop (.succ (.seq (.seq (.rg [(1, qp 1 0), (3, qj 0)] (W7 a0) (.rd 2 [(5, qb true), (4, qj 0)] [] (.thenN (.ct (.skip (.thenN (.seq (.block (.sr 7 [(14, qb (decide ((40 : Int) < (a0.F.a0.Text.size : Int)))), (13, qj (a0.F.a0.Text.size : Int)), (12, qs a0.F.a0.Text), (11, qp 1 7), (10, qp 1 6), (9, qp 1 6), (8, qj 0)] [] (.cd _ ?_ ?_)))))))))))))))))
 ·exact Sim.sr 1 [(2, qb false)] [] (.ret (.blockR (.thenR (.loopR (.blockR (.thenR .fn))))))
 ·refine Sim.skip (.blockN (.thenN (.region0 (.rd 3 [(3, qj 1), (7, qj 1), (6, qj 0)] [] (.loopN (.succ (.seq (.seq (.rg [(1, qp 1 0), (3, qj 1)] (W7 a0) (.rd 2 [(5, qb true), (4, qj 1)] [] (.thenN (.ct (.skip (.thenN (.seq (.block (.sr 7 [(14, qb (decide ((40 : Int) < (a0.F.a1.Text.size : Int)))), (13, qj (a0.F.a1.Text.size : Int)), (12, qs a0.F.a1.Text), (11, qp 1 9), (10, qp 1 8), (9, qp 1 6), (8, qj 1)] [] (.cd _ ?_ ?_))))))))))))))))))
  ·exact Sim.sr 1 [(2, qb false)] [] (.ret (.blockR (.thenR (.loopR (.blockR (.thenR .fn))))))
  ·refine Sim.skip (.blockN (.thenN (.region0 (.rd 3 [(3, qj 2), (7, qj 2), (6, qj 1)] [] (.loopN (.succ (.seq (.seq (.rg [(1, qp 1 0), (3, qj 2)] (W7 a0) (.rd 2 [(5, qb true), (4, qj 2)] [] (.thenN (.ct (.skip (.thenN (.seq (.block (.sr 7 [(14, qb (decide ((40 : Int) < (a0.F.a2.Text.size : Int)))), (13, qj (a0.F.a2.Text.size : Int)), (12, qs a0.F.a2.Text), (11, qp 1 11), (10, qp 1 10), (9, qp 1 6), (8, qj 2)] [] (.cd _ ?_ ?_))))))))))))))))))
   ·exact Sim.sr 1 [(2, qb false)] [] (.ret (.blockR (.thenR (.loopR (.blockR (.thenR .fn))))))
   ·refine Sim.skip (.blockN (.thenN (.region0 (.rd 3 [(3, qj 3), (7, qj 3), (6, qj 2)] [] (.loopN (.succ (.seq (.seq (.rg [(1, qp 1 0), (3, qj 3)] (W7 a0) (.rd 2 [(5, qb true), (4, qj 3)] [] (.thenN (.ct (.skip (.thenN (.seq (.block (.sr 7 [(14, qb (decide ((40 : Int) < (a0.F.a3.Text.size : Int)))), (13, qj (a0.F.a3.Text.size : Int)), (12, qs a0.F.a3.Text), (11, qp 1 13), (10, qp 1 12), (9, qp 1 6), (8, qj 3)] [] (.cd _ ?_ ?_))))))))))))))))))
    ·exact Sim.sr 1 [(2, qb false)] [] (.ret (.blockR (.thenR (.loopR (.blockR (.thenR .fn))))))
    ·exact Sim.skip (.blockN (.thenN (.region0 (.rd 3 [(3, qj 4), (7, qj 4), (6, qj 3)] [] (.loopN (.succ (.seq (.seq (.rg [(1, qp 1 0), (3, qj 4)] (W7 a0) (.rd 2 [(5, qb false), (4, qj 4)] [] (.thenN (.cf (.exit (.thenX (.loopX (.blockX (.thenN (.sr 6 (rp [2, 19] (qb (decide ((a0.Value.Text.size : Int) ≤ 40))) ++ [(18, qj (a0.Value.Text.size : Int)), (17, qs a0.Value.Text), (16, qp 1 15), (15, qp 1 14)]) [] (.ret .fn)))))))))))))))))))
def F74_e : Bool → PV × List Ob := fun r => (.one (lb r), [])
def F74 (n : Nat) (a0 : Field) : Option Bool :=
 some (decide ((a0.Text.size : Int) ≤ 40))
theorem F74_ok (n : Nat) (a0 : Field) : ∀ r, F74 n a0 = some r → D 74 [.agg [li .i64 a0.N, ls a0.Text]] [] = some (F74_e r) := by
 refine fn_to (D := D) (n := n + 8) (nt := 7) (rs := pc74_r) (c := p74c5) (L := [(0, .agg [lj a0.N, ls a0.Text])]) (M := []) (k := 0) rfl rfl rfl rfl rfl rfl rfl ?_
 unfold F74
 exact Sim.sr 2 W56 [(1, some (.cells [lj a0.N, ls a0.Text]))] (.sr 5 (rp [2, 6] (qb (decide ((a0.Text.size : Int) ≤ 40))) ++ [(5, qj (a0.Text.size : Int)), (4, qs a0.Text), (3, qp 1 1)]) [] (.ret .fn))
def F43_e : Bool → PV × List Ob := fun r => (.one (lb r), [])
def F43 (n : Nat) (a0 : Thing) : Option Bool :=
 (F74 n a0.F.a0).bind fun (r1 : Bool) =>
 if !(r1) then
  some false
 else
  (F74 n a0.F.a1).bind fun (r2 : Bool) =>
  if !(r2) then
   some false
  else
   (F74 n a0.F.a2).bind fun (r3 : Bool) =>
   if !(r3) then
    some false
   else
    (F74 n a0.F.a3).bind fun (r4 : Bool) =>
    if !(r4) then
     some false
    else
     some true
theorem F43_ok (n : Nat) (a0 : Thing) : ∀ r, F43 n a0 = some r → D 43 [.agg (Thing.cells a0)] [] = some (F43_e r) := by
 refine fn_to (D := D) (n := n + 8) (nt := 14) (rs := pc43_r) (c := p43c26) (L := [(0, .agg (Thing.cells a0))]) (M := []) (k := 0) rfl rfl rfl rfl rfl rfl rfl ?_
 unfold F43
 refine Sim.sr 2 W56 (W84 a0) (.seq (.sr 1 [(3, qj 0)] [] (.block (.loop (.succ (.seq (.seq (.rg [(1, qp 1 0), (3, qj 0)] (W84 a0) (.rd 2 [(5, qb true), (4, qj 0)] [] (.thenN (.ct (.skip (.thenN (.seq (.block (.st 4 [(11, .agg [lj a0.F.a0.N, ls a0.F.a0.Text]), (10, qp 1 3), (9, qp 1 3), (8, qj 0)] [] (.cl 12 true [[]] 74 [11] none (fun r1 => qb r1) [.agg [lj a0.F.a0.N, ls a0.F.a0.Text]] (F74_ok _ _) (fun r1 => ?_))))))))))))))))))
 refine SimI.rd 1 [(13, qb (!(r1)))] [] (.thenN (.cd _ ?_ ?_))
 ·exact Sim.sr 1 [(2, qb false)] [] (.ret (.blockR (.thenR (.loopR (.blockR (.thenR .fn))))))
 ·refine Sim.skip (.blockN (.thenN (.region0 (.rd 3 [(3, qj 1), (7, qj 1), (6, qj 0)] [] (.loopN (.succ (.seq (.seq (.rg [(1, qp 1 0), (3, qj 1)] (W84 a0) (.rd 2 [(5, qb true), (4, qj 1)] [] (.thenN (.ct (.skip (.thenN (.seq (.block (.st 4 [(11, .agg [lj a0.F.a1.N, ls a0.F.a1.Text]), (10, qp 1 5), (9, qp 1 3), (8, qj 1)] [] (.cl 12 true [[]] 74 [11] none (fun r2 => qb r2) [.agg [lj a0.F.a1.N, ls a0.F.a1.Text]] (F74_ok _ _) (fun r2 => ?_)))))))))))))))))))
  refine SimI.rd 1 [(13, qb (!(r2)))] [] (.thenN (.cd _ ?_ ?_))
  ·exact Sim.sr 1 [(2, qb false)] [] (.ret (.blockR (.thenR (.loopR (.blockR (.thenR .fn))))))
  ·refine Sim.skip (.blockN (.thenN (.region0 (.rd 3 [(3, qj 2), (7, qj 2), (6, qj 1)] [] (.loopN (.succ (.seq (.seq (.rg [(1, qp 1 0), (3, qj 2)] (W84 a0) (.rd 2 [(5, qb true), (4, qj 2)] [] (.thenN (.ct (.skip (.thenN (.seq (.block (.st 4 [(11, .agg [lj a0.F.a2.N, ls a0.F.a2.Text]), (10, qp 1 7), (9, qp 1 3), (8, qj 2)] [] (.cl 12 true [[]] 74 [11] none (fun r3 => qb r3) [.agg [lj a0.F.a2.N, ls a0.F.a2.Text]] (F74_ok _ _) (fun r3 => ?_)))))))))))))))))))
   refine SimI.rd 1 [(13, qb (!(r3)))] [] (.thenN (.cd _ ?_ ?_))
   ·exact Sim.sr 1 [(2, qb false)] [] (.ret (.blockR (.thenR (.loopR (.blockR (.thenR .fn))))))
   ·refine Sim.skip (.blockN (.thenN (.region0 (.rd 3 [(3, qj 3), (7, qj 3), (6, qj 2)] [] (.loopN (.succ (.seq (.seq (.rg [(1, qp 1 0), (3, qj 3)] (W84 a0) (.rd 2 [(5, qb true), (4, qj 3)] [] (.thenN (.ct (.skip (.thenN (.seq (.block (.st 4 [(11, .agg [lj a0.F.a3.N, ls a0.F.a3.Text]), (10, qp 1 9), (9, qp 1 3), (8, qj 3)] [] (.cl 12 true [[]] 74 [11] none (fun r4 => qb r4) [.agg [lj a0.F.a3.N, ls a0.F.a3.Text]] (F74_ok _ _) (fun r4 => ?_)))))))))))))))))))
    refine SimI.rd 1 [(13, qb (!(r4)))] [] (.thenN (.cd _ ?_ ?_))
    ·exact Sim.sr 1 [(2, qb false)] [] (.ret (.blockR (.thenR (.loopR (.blockR (.thenR .fn))))))
    ·exact Sim.skip (.blockN (.thenN (.region0 (.rd 3 [(3, qj 4), (7, qj 4), (6, qj 3)] [] (.loopN (.succ (.seq (.seq (.rg [(1, qp 1 0), (3, qj 4)] (W84 a0) (.rd 2 [(5, qb false), (4, qj 4)] [] (.thenN (.cf (.exit (.thenX (.loopX (.blockX (.thenN (.sr 1 [(2, qb true)] [] (.ret .fn)))))))))))))))))))
def F17_e : Bool → PV × List Ob := fun r => (.one (lb r), [])
def F17_l4 (n : Nat) (a0 : (List Thing)) : Nat → Int → Option Bool
 | 0, _ => none
 | m + 1, i3 =>
  if decide (i3 < ((a0).length : Int)) then
   (ix a0 i3).bind fun (x5 : Thing) =>
   (F43 n x5).bind fun (r6 : Bool) =>
   if !(r6) then
    some false
   else
    (F17_l4 n a0 m) (IntKind.wrap .i64 (i3 + 1))
  else
   some (decide (((a0).length : Int) ≤ 30))
theorem F17_l4_ok (n : Nat) (a0 : (List Thing)) : ∀ (m : Nat) (i3 : Int), SimL Try.prog D (n + 8) m p17c18 [(0, .one (vw Thing.cod a0)), (3, qj i3)] [] (F17_l4 n a0 m i3) (QB 0 (QT Try.prog D (n + 8) p17c24 (QF false pc17_r 0 F17_e))) := by
 intro m_l4
 induction m_l4 with
 | zero => intro i3; exact SimL.zero'  rfl
 | succ m_l4 ih_l4 =>
  intro i3
  refine SimL.succ ?_
  unfold F17_l4
  refine Sim.seq (.seq (.rg [(0, .one (vw Thing.cod a0)), (3, qj i3)] [] (.rd 4 [(7, qb (decide (i3 < ((a0).length : Int)))), (6, qj ((a0).length : Int)), (5, .one (vw Thing.cod a0)), (4, qj i3)] [] (.thenN (.cd _ ?_ ?_)))))
  ·refine Sim.skip (.thenN (.seq (.block (.st 2 [(11, qj i3), (10, .one (vw Thing.cod a0))] [] (.bn ⟨some 12, .iaddrS 11 10 11, none, []⟩ (fun x5 => [(12, .one (.eptr (Thing.cod.enc x5) 0))]) (fun x5 => []) (fun x5 hr => pe (ei (c := Thing.cod) (k := .i64) hr)) (fun x5 => ?_))))))
   refine SimI.rn 1 [(13, .agg (Thing.cells x5))] [] (.cl 14 true [[]] 43 [13] none (fun r6 => qb r6) [.agg (Thing.cells x5)] (F43_ok _ _) (fun r6 => ?_))
   refine SimI.rd 1 [(15, qb (!(r6)))] [] (.thenN (.cd _ ?_ ?_))
   ·exact Sim.sr 1 [(2, qb false)] [] (.ret (.blockR (.thenR (.loopR (.blockR (.thenR .fn))))))
   ·refine Sim.skip (.blockN (.thenN (.region0 (.rd 3 (rp [3, 9] (qj (iw .i64 (i3 + 1))) ++ [(8, qj i3)]) [] (.loopN (.pr [0, 3] [] [] [(0, .one (vw Thing.cod a0)), (3, qj (iw .i64 (i3 + 1)))] [] ?_))))))
    exact ih_l4 (iw .i64 (i3 + 1))
  ·exact Sim.exit (.thenX (.loopX (.blockX (.thenN (.sr 4 (rp [2, 18] (qb (decide (((a0).length : Int) ≤ 30))) ++ [(17, qj ((a0).length : Int)), (16, .one (vw Thing.cod a0))]) [] (.ret .fn))))))
def F17 (n : Nat) (a0 : (List Thing)) : Option Bool :=
 F17_l4 n a0 (n + 8) 0
theorem F17_ok (n : Nat) (a0 : (List Thing)) : ∀ r, F17 n a0 = some r → D 17 [.one (vw Thing.cod a0)] [] = some (F17_e r) := by
 refine fn_to (D := D) (n := n + 8) (nt := 19) (rs := pc17_r) (c := p17c26) (L := [(0, .one (vw Thing.cod a0))]) (M := []) (k := 0) rfl rfl rfl rfl rfl rfl rfl ?_
 unfold F17
 refine Sim.sr 1 [(2, qb false)] [] (.seq (.sr 1 [(3, qj 0)] [] (.block (.loop (.pr [0, 3] [] [] [(0, .one (vw Thing.cod a0)), (3, qj 0)] [] ?_)))))
 exact F17_l4_ok n a0 (n + 8) 0
def F8_e : Bool → PV × List Ob := fun r => (.one (lb r), [])
def F8_l4 (n : Nat) (a0 : Note) : Nat → Int → Option Bool
 | 0, _ => none
 | m + 1, i3 =>
  if decide (i3 < ((a0.Watch).length : Int)) then
   (ix a0.Watch i3).bind fun (x5 : Command) =>
   (F16 n x5).bind fun (r6 : Bool) =>
   if !(r6) then
    some false
   else
    (F8_l4 n a0 m) (IntKind.wrap .i64 (i3 + 1))
  else
   (F17 n a0.Moved).bind fun (r7 : Bool) =>
   if r7 then
    (F17 n a0.Given).bind fun (r8 : Bool) =>
    if r8 then
     if decide (((a0.Hands).length : Int) ≤ 20) then
      some (decide (((a0.Watch).length : Int) ≤ 24))
     else
      some false
    else
     some false
   else
    some false
theorem F8_l4_ok (n : Nat) (a0 : Note) : ∀ (m : Nat) (i3 : Int), SimL Try.prog D (n + 8) m p8c18 [(1, qp 1 0), (3, qj i3)] [(1, some (.cells (W18 a0)))] (F8_l4 n a0 m i3) (QB 0 (QT Try.prog D (n + 8) p8c24 (QF false pc8_r 0 F8_e))) := by
 intro m_l4
 induction m_l4 with
 | zero => intro i3; exact SimL.zero'  rfl
 | succ m_l4 ih_l4 =>
  intro i3
  refine SimL.succ ?_
  unfold F8_l4
  refine Sim.seq (.seq (.rg [(1, qp 1 0), (3, qj i3)] [(1, some (.cells (w0 a0)))] (.rd 5 [(8, qb (decide (i3 < ((a0.Watch).length : Int)))), (7, qj ((a0.Watch).length : Int)), (6, .one (vw Command.cod a0.Watch)), (5, qp 1 5), (4, qj i3)] [] (.thenN (.cd _ ?_ ?_)))))
  ·refine Sim.skip (.thenN (.seq (.block (.st 3 [(13, qj i3), (12, .one (vw Command.cod a0.Watch)), (11, qp 1 5)] [] (.bn ⟨some 14, .iaddrS 22 12 13, none, []⟩ (fun x5 => [(14, .one (.eptr (Command.cod.enc x5) 0))]) (fun x5 => []) (fun x5 hr => pe (ei (c := Command.cod) (k := .i64) hr)) (fun x5 => ?_))))))
   refine SimI.rn 1 [(15, .agg (Command.cells x5))] [] (.cl 16 true [[]] 16 [15] none (fun r6 => qb r6) [.agg (Command.cells x5)] (F16_ok _ _) (fun r6 => ?_))
   refine SimI.rd 1 [(17, qb (!(r6)))] [] (.thenN (.cd _ ?_ ?_))
   ·exact Sim.sr 1 [(2, qb false)] [] (.ret (.blockR (.thenR (.loopR (.blockR (.thenR .fn))))))
   ·refine Sim.skip (.blockN (.thenN (.region0 (.rd 3 (rp [3, 10] (qj (iw .i64 (i3 + 1))) ++ [(9, qj i3)]) [] (.loopN (.pr [1, 3] [1] [] [(1, qp 1 0), (3, qj (iw .i64 (i3 + 1)))] [(1, some (.cells (w0 a0)))] ?_))))))
    exact ih_l4 (iw .i64 (i3 + 1))
  ·refine Sim.exit (.thenX (.loopX (.blockX (.thenN (.st 2 [(19, .one (vw Thing.cod a0.Moved)), (18, qp 1 2)] [] (.cl 20 true [[(0, 11)]] 17 [19] none (fun r7 => qb r7) [.one (vw Thing.cod a0.Moved)] (F17_ok _ _) (fun r7 => ?_)))))))
   refine SimI.rn 1 [(21, qb r7)] [] (.sp 21 _ ?_ ?_)
   ·refine SimI.rn 2 [(23, .one (vw Thing.cod a0.Given)), (22, qp 1 4)] [] (.cl 24 true [[(0, 11)]] 17 [23] (some (21, true)) (fun r8 => qb r8) [.one (vw Thing.cod a0.Given)] (F17_ok _ _) (fun r8 => ?_))
    refine SimI.rn 2 [(26, qb r8), (25, qb r8)] [] (.sp 26 _ ?_ ?_)
    ·refine SimI.rn 6 (rp [32, 31, 30] (qb (decide (((a0.Hands).length : Int) ≤ 20))) ++ [(29, qj ((a0.Hands).length : Int)), (28, .one (vw Hand.cod a0.Hands)), (27, qp 1 3)]) [] (.sp 32 _ ?_ ?_)
     ·exact SimI.rd 6 (rp [2, 37, 36] (qb (decide (((a0.Watch).length : Int) ≤ 24))) ++ [(35, qj ((a0.Watch).length : Int)), (34, .one (vw Command.cod a0.Watch)), (33, qp 1 5)]) [] (.thenN (.ret .fn))
     ·exact SimI.rd 6 [(2, qb false), (37, qb false), (36, tz), (35, tz), (34, tz), (33, tz)] [] (.thenN (.ret .fn))
    ·exact SimI.rd 12 [(2, qb false), (37, qb false), (36, tz), (35, tz), (34, tz), (33, tz), (32, qb false), (31, qb false), (30, tz), (29, tz), (28, tz), (27, tz)] [] (.thenN (.ret .fn))
   ·exact SimI.rd 17 [(2, qb false), (37, qb false), (36, tz), (35, tz), (34, tz), (33, tz), (32, qb false), (31, qb false), (30, tz), (29, tz), (28, tz), (27, tz), (26, qb false), (25, qb false), (24, tz), (23, tz), (22, tz)] [] (.thenN (.ret .fn))
def F8 (n : Nat) (a0 : Note) : Option Bool :=
 F8_l4 n a0 (n + 8) 0
theorem F8_ok (n : Nat) (a0 : Note) : ∀ r, F8 n a0 = some r → D 8 [.agg [li .i64 a0.From, li .i64 a0.Beat, vw Thing.cod a0.Moved, vw Hand.cod a0.Hands, vw Thing.cod a0.Given, vw Command.cod a0.Watch]] [] = some (F8_e r) := by
 refine fn_to (D := D) (n := n + 8) (nt := 38) (rs := pc8_r) (c := p8c26) (L := [(0, .agg (w0 a0))]) (M := []) (k := 0) rfl rfl rfl rfl rfl rfl rfl ?_
 unfold F8
 refine Sim.sr 2 W56 [(1, some (.cells (w0 a0)))] (.seq (.sr 1 [(3, qj 0)] [] (.block (.loop (.pr [1, 3] [1] [] [(1, qp 1 0), (3, qj 0)] [(1, some (.cells (w0 a0)))] ?_)))))
 exact F8_l4_ok n a0 (n + 8) 0
def F15_e : (Int × Int × Int) → PV × List Ob := fun r => (.tup [.one (li .u64 r.1), .one (li .i64 r.2.1), .one (li .i64 r.2.2)], [])
def F15_j10 (n : Nat) (i5 i6 x8 : Int) : Option (Int × Int × Int) :=
  some (bitsI .or .u64 i5 (shlI .u64 (IntKind.wrap .u64 (bitsI .and .u8 x8 127)) (IntKind.wrap .u64 (IntKind.wrap .i64 (7 * i6)))), IntKind.wrap .i64 (i6 + 1), 0)
theorem F15_j10_ok (n : Nat) (i5 i6 x8 : Int) (m_l7 : Nat) : Sim Try.prog D (n + 8) p15c28 [(5, .one (li .u64 (bitsI .or .u64 i5 (shlI .u64 (IntKind.wrap .u64 (bitsI .and .u8 x8 127)) (IntKind.wrap .u64 (IntKind.wrap .i64 (7 * i6))))))), (6, qj i6)] [] (F15_j10 n i5 i6 x8) (QB 1 (QT Try.prog D (n + 8) p15c37 (QL Try.prog D (n + 8) m_l7 p15c39 (QB 0 (QT Try.prog D (n + 8) p15c45 (QF false pc15_r 0 F15_e)))))) := by
  unfold F15_j10
  exact Sim.seq (.rg (W78 i5 x8 i6) [] (.rd 6 [(4, qj 0), (3, qj (iw .i64 (i6 + 1))), (2, .one (li .u64 (bitsI .or .u64 i5 (shlI .u64 (iw .u64 (bitsI .and .u8 x8 127)) (iw .u64 (iw .i64 (7 * i6))))))), (42, qj (iw .i64 (i6 + 1))), (41, qj i6), (40, .one (li .u64 (bitsI .or .u64 i5 (shlI .u64 (iw .u64 (bitsI .and .u8 x8 127)) (iw .u64 (iw .i64 (7 * i6)))))))] [] (.thenN (.ret (.blockR (.thenR (.loopR (.blockR (.thenR .fn)))))))))
def F15_j9 (n : Nat) (i5 i6 x8 : Int) (rec_l7 : Int → Int → Option (Int × Int × Int)) : Option (Int × Int × Int) :=
  if ¬ (IntKind.wrap .u64 (IntKind.wrap .i64 (7 * i6)) < 0) then
   if decide (x8 < 128) then
    if x8 == 0 then
     if decide ((0 : Int) < i6) then
      some (0, 0, 11)
     else
      F15_j10 n i5 i6 x8
    else
     F15_j10 n i5 i6 x8
   else
    rec_l7 (bitsI .or .u64 i5 (shlI .u64 (IntKind.wrap .u64 (bitsI .and .u8 x8 127)) (IntKind.wrap .u64 (IntKind.wrap .i64 (7 * i6))))) (IntKind.wrap .i64 (i6 + 1))
  else none
theorem F15_j9_ok (n : Nat) (a0 : ByteArray) (i5 i6 x8 : Int) (rec_l7 : Int → Int → Option (Int × Int × Int)) (m_l7 : Nat) (ih_l7 : ∀ (i5 i6 : Int), SimL Try.prog D (n + 8) m_l7 p15c39 [(0, qs a0), (5, .one (li .u64 i5)), (6, qj i6)] [] (rec_l7 i5 i6) (QB 0 (QT Try.prog D (n + 8) p15c45 (QF false pc15_r 0 F15_e)))) : Sim Try.prog D (n + 8) p15c33 [(0, qs a0), (5, .one (li .u64 i5)), (6, qj i6), (7, .one (li .u8 x8))] [] (F15_j9 n i5 i6 x8 rec_l7) (QB 1 (QT Try.prog D (n + 8) p15c37 (QL Try.prog D (n + 8) m_l7 p15c39 (QB 0 (QT Try.prog D (n + 8) p15c45 (QF false pc15_r 0 F15_e)))))) := by
  unfold F15_j9
  refine Sim.seq (.rs (.rn 7 [(29, .one (li .u64 (iw .u64 (iw .i64 (7 * i6))))), (28, qj (iw .i64 (7 * i6))), (27, qj i6), (26, .one (li .u64 (iw .u64 (bitsI .and .u8 x8 127)))), (25, .one (li .u8 (bitsI .and .u8 x8 127))), (24, .one (li .u8 x8)), (23, .one (li .u64 i5))] [] (.gp 30 (.bin .shl 38 false false) [26, 29] none [] (fun hc => pr_shl _ _ _ .u64 .u64 (iw .u64 (bitsI .and .u8 x8 127)) (iw .u64 (iw .i64 (7 * i6))) hc) (.rd 2 (rp [5, 31] (.one (li .u64 (bitsI .or .u64 i5 (shlI .u64 (iw .u64 (bitsI .and .u8 x8 127)) (iw .u64 (iw .i64 (7 * i6)))))))) [] (.thenN (.sr 2 [(33, qb (decide (x8 < 128))), (32, .one (li .u8 x8))] [] (.cd _ ?_ ?_)))))))
  ·refine Sim.seq (.st 3 [(36, qb (x8 == 0)), (35, qb (x8 == 0)), (34, .one (li .u8 x8))] [] (.sp 36 _ ?_ ?_))
   ·refine SimI.rd 3 (rp [39, 38] (qb (decide ((0 : Int) < i6))) ++ [(37, qj i6)]) [] (.thenN (.cd _ ?_ ?_))
    ·exact Sim.sr 3 W104 [] (.ret (.thenR (.blockR (.thenR (.loopR (.blockR (.thenR .fn)))))))
    ·refine Sim.skip (.thenN (.pr [5, 6] [] [] (W78 i5 x8 i6) [] ?_))
     exact F15_j10_ok n i5 i6 x8 m_l7
   ·refine SimI.rd 3 [(39, qb false), (38, tz), (37, tz)] [] (.thenN (.cf (.skip (.thenN (.pr [5, 6] [] [] (W78 i5 x8 i6) [] ?_)))))
    exact F15_j10_ok n i5 i6 x8 m_l7
  ·refine Sim.skip (.blockN (.thenN (.region0 (.rd 3 (rp [6, 13] (qj (iw .i64 (i6 + 1))) ++ [(12, qj i6)]) [] (.loopN (.pr [0, 5, 6] [] [] [(0, qs a0), (5, .one (li .u64 (bitsI .or .u64 i5 (shlI .u64 (iw .u64 (bitsI .and .u8 x8 127)) (iw .u64 (iw .i64 (7 * i6))))))), (6, qj (iw .i64 (i6 + 1)))] [] ?_))))))
   exact ih_l7 (bitsI .or .u64 i5 (shlI .u64 (iw .u64 (bitsI .and .u8 x8 127)) (iw .u64 (iw .i64 (7 * i6))))) (iw .i64 (i6 + 1))
def F15_l7 (n : Nat) (a0 : ByteArray) : Nat → Int → Int → Option (Int × Int × Int)
 | 0, _, _ => none
 | m + 1, i5, i6 =>
  if decide (i6 < (a0.size : Int)) then
   (ix (bytesL a0) i6).bind fun (x8 : Int) =>
   if i6 == 9 then
    if decide ((1 : Int) < x8) then
     some (0, 0, 11)
    else
     F15_j9 n i5 i6 x8 (F15_l7 n a0 m)
   else
    F15_j9 n i5 i6 x8 (F15_l7 n a0 m)
  else
   some (0, 0, 10)
theorem F15_l7_ok (n : Nat) (a0 : ByteArray) : ∀ (m : Nat) (i5 i6 : Int), SimL Try.prog D (n + 8) m p15c39 [(0, qs a0), (5, .one (li .u64 i5)), (6, qj i6)] [] (F15_l7 n a0 m i5 i6) (QB 0 (QT Try.prog D (n + 8) p15c45 (QF false pc15_r 0 F15_e))) := by
 intro m_l7
 induction m_l7 with
 | zero => intro i5 i6; exact SimL.zero'  rfl
 | succ m_l7 ih_l7 =>
  intro i5 i6
  refine SimL.succ ?_
  unfold F15_l7
  refine Sim.seq (.seq (.rg [(0, qs a0), (5, .one (li .u64 i5)), (6, qj i6)] [] (.rd 4 [(11, qb (decide (i6 < (a0.size : Int)))), (10, qj (a0.size : Int)), (9, qs a0), (8, qj i6)] [] (.thenN (.cd _ ?_ ?_)))))
  ·refine Sim.skip (.thenN (.seq (.block (.st 2 [(15, qj i6), (14, qs a0)] [] (.bn ⟨some 16, .prim (.index 9) [14, 15], none, []⟩ (fun x8 => [(16, .one (li .u8 x8))]) (fun x8 => []) (fun x8 hr => pe (ep (pr_index (s := a0) (k := .i64) (i := i6) (b := x8) Try.underlying9 hr))) (fun x8 => ?_))))))
   refine SimI.rd 1 [(7, .one (li .u8 x8))] [] (.thenN (.seq (.st 3 [(19, qb (i6 == 9)), (18, qb (i6 == 9)), (17, qj i6)] [] (.sp 19 _ ?_ ?_))))
   ·refine SimI.rd 3 (rp [22, 21] (qb (decide ((1 : Int) < x8))) ++ [(20, .one (li .u8 x8))]) [] (.thenN (.cd _ ?_ ?_))
    ·exact Sim.sr 3 W104 [] (.ret (.thenR (.blockR (.thenR (.loopR (.blockR (.thenR .fn)))))))
    ·refine Sim.skip (.thenN (.pr [0, 5, 6, 7] [] [] [(0, qs a0), (5, .one (li .u64 i5)), (6, qj i6), (7, .one (li .u8 x8))] [] ?_))
     exact F15_j9_ok n a0 i5 i6 x8 (F15_l7 n a0 m_l7) m_l7 ih_l7
   ·refine SimI.rd 3 [(22, qb false), (21, tz), (20, tz)] [] (.thenN (.cf (.skip (.thenN (.pr [0, 5, 6, 7] [] [] [(0, qs a0), (5, .one (li .u64 i5)), (6, qj i6), (7, .one (li .u8 x8))] [] ?_)))))
    exact F15_j9_ok n a0 i5 i6 x8 (F15_l7 n a0 m_l7) m_l7 ih_l7
  ·exact Sim.exit (.thenX (.loopX (.blockX (.thenN (.sr 3 [(4, qj 10), (3, qj 0), (2, .one (li .u64 0))] [] (.ret .fn))))))
def F15 (n : Nat) (a0 : ByteArray) : Option (Int × Int × Int) :=
 F15_l7 n a0 (n + 8) 0 0
theorem F15_ok (n : Nat) (a0 : ByteArray) : ∀ r, F15 n a0 = some r → D 15 [.one (ls a0)] [] = some (F15_e r) := by
 refine fn_to (D := D) (n := n + 8) (nt := 43) (rs := pc15_r) (c := p15c48) (L := [(0, qs a0)]) (M := []) (k := 0) rfl rfl rfl rfl rfl rfl rfl ?_
 unfold F15
 refine Sim.sr 3 [(4, qj 0), (3, qj 0), (2, .one (li .u64 0))] [] (.sr 1 [(5, .one (li .u64 0))] [] (.seq (.sr 1 [(6, qj 0)] [] (.block (.loop (.pr [0, 5, 6] [] [] [(0, qs a0), (5, .one (li .u64 0)), (6, qj 0)] [] ?_))))))
 exact F15_l7_ok n a0 (n + 8) 0 0
def F4_e : Bool → PV × List Ob := fun r => (.one (lb r), [])
def F4_j10 (n : Nat) (a2 : ByteArray) (a3 a4 a5 : Int) (r5 : (ByteArray × Int)) : Option Bool :=
  if (r5.1.size : Int) ≠ 0 then
   if 0 ≤ (Int.tmod (IntKind.wrap .i64 a5) (r5.1.size : Int) : Int) ∧ (Int.tmod (IntKind.wrap .i64 a5) (r5.1.size : Int) : Int) ≤ (r5.1.size : Int) then
    (F14 n (r5.1.extract 0 (Int.tmod (IntKind.wrap .i64 a5) (r5.1.size : Int)).toNat)).bind fun (r11 : (Note × Int × Int)) =>
    (F15 n r5.1).bind fun (r12 : (Int × Int × Int)) =>
    if IntKind.wrap .i64 ((r5.1.size : Int) - r12.2.1) ≠ 0 then
     (ix (bytesL r5.1) (IntKind.wrap .i64 (r12.2.1 + Int.tmod (IntKind.wrap .i64 a3) (IntKind.wrap .i64 ((r5.1.size : Int) - r12.2.1))))).bind fun (x13 : Int) =>
     if ¬ (Int.tmod a4 8 < 0) then
      (ix (bytesL r5.1) (IntKind.wrap .i64 (r12.2.1 + Int.tmod (IntKind.wrap .i64 a3) (IntKind.wrap .i64 ((r5.1.size : Int) - r12.2.1))))).bind fun (x14 : Int) =>
      if (mkStr ((bytesL r5.1).set ((IntKind.wrap .i64 (r12.2.1 + Int.tmod (IntKind.wrap .i64 a3) (IntKind.wrap .i64 ((r5.1.size : Int) - r12.2.1)))).toNat) (bitsI .xor .u8 x13 (shlI .u8 1 (Int.tmod a4 8))))).size + a2.size ≤ 9223372036854775807 then
       (F14 n ((mkStr ((bytesL r5.1).set ((IntKind.wrap .i64 (r12.2.1 + Int.tmod (IntKind.wrap .i64 a3) (IntKind.wrap .i64 ((r5.1.size : Int) - r12.2.1)))).toNat) (bitsI .xor .u8 x13 (shlI .u8 1 (Int.tmod a4 8))))) ++ a2)).bind fun (r15 : (Note × Int × Int)) =>
       if r11.2.2 == 10 then
        if r12.2.2 == 0 then
         if r15.2.2 == 12 then
          some (r15.2.1 == 0)
         else
          some false
        else
         some false
       else
        some false
      else none
     else none
    else none
   else none
  else none
theorem F4_j10_ok (n : Nat) (a2 : ByteArray) (a3 a4 a5 : Int) (r5 : (ByteArray × Int)) : Sim Try.prog D (n + 8) p4c40 [(2, qs a2), (3, .one (li .u16 a3)), (4, .one (li .u8 a4)), (5, .one (li .u8 a5)), (13, qs r5.1)] [] (F4_j10 n a2 a3 a4 a5 r5) (QF false pc4_r 0 F4_e) := by
  unfold F4_j10
  refine Sim.seq (.rs (.rn 5 [(110, qj (r5.1.size : Int)), (109, qs r5.1), (108, qj (iw .i64 a5)), (107, .one (li .u8 a5)), (106, qs r5.1)] [] (.gp 111 (.bin .rem 3 false false) [108, 110] none [] (fun hc => pr_rem _ _ _ .i64 (iw .i64 a5) (r5.1.size : Int) hc) (.gp 112 (.slice 9 false true) [106, 111] none [] (fun hc => pr_cutH (s := r5.1) (l := .i64) (b := Int.tmod (iw .i64 a5) (r5.1.size : Int)) Try.underlying9 hc) (.cl 113 true [[]] 14 [112] none (fun r11 => .tup (W120 r11)) [qs (r5.1.extract 0 (Int.tmod (iw .i64 a5) (r5.1.size : Int)).toNat)] (F14_ok _ _) (fun r11 => ?_))))))
  refine SimI.rd 8 [(22, qj r11.2.2), (21, qj r11.2.1), (20, qp 20 0), (116, qj r11.2.2), (115, qj r11.2.1), (114, .agg (W3 r11)), (105, .tup (W120 r11))] [(20, some (.cells (W3 r11))), (20, some (.cells W10))] (.thenN (.st 1 [(118, qs r5.1)] [] (.cl 119 true [[]] 15 [118] none (fun r12 => .tup (W44 r12)) [qs r5.1] (F15_ok _ _) (fun r12 => ?_))))
  refine SimI.rd 7 [(25, qj r12.2.2), (24, qj r12.2.1), (23, .one (li .u64 r12.1)), (122, qj r12.2.2), (121, qj r12.2.1), (120, .one (li .u64 r12.1)), (117, .tup (W44 r12))] [] (.thenN (.st 1 [(123, qs r5.1)] [] (.se ⟨some 124, .s2bo 5 123, none, []⟩ [(124, .one (.osl 124 0 0 (bytesL r5.1).length))] [(124, some (.arr 1000000005 (codI .u8).sz 0 (bytesL r5.1).length (getOf (codI .u8) (bytesL r5.1))))] (pe (eff_s2bo (s := r5.1) (el2 := 1000000005) (by kernel_rfl) (by kernel_rfl) (by kernel_rfl) (by kernel_rfl))) (.rd 1 [(26, .one (.osl 124 0 0 (bytesL r5.1).length))] [] (.thenN (.st 7 [(131, qj (iw .i64 ((r5.1.size : Int) - r12.2.1))), (130, qj r12.2.1), (129, qj (r5.1.size : Int)), (128, qs r5.1), (127, qj (iw .i64 a3)), (126, .one (li .u16 a3)), (125, qj r12.2.1)] [] (.gp 132 (.bin .rem 3 false false) [127, 131] none [] (fun hc => pr_rem _ _ _ .i64 (iw .i64 a3) (iw .i64 ((r5.1.size : Int) - r12.2.1)) hc) (.rd 2 (rp [27, 133] (qj (iw .i64 (r12.2.1 + Int.tmod (iw .i64 a3) (iw .i64 ((r5.1.size : Int) - r12.2.1)))))) [] (.thenN (.st 4 [(137, qj (iw .i64 (r12.2.1 + Int.tmod (iw .i64 a3) (iw .i64 ((r5.1.size : Int) - r12.2.1))))), (136, .one (.osl 124 0 0 (bytesL r5.1).length)), (135, qj (iw .i64 (r12.2.1 + Int.tmod (iw .i64 a3) (iw .i64 ((r5.1.size : Int) - r12.2.1))))), (134, .one (.osl 124 0 0 (bytesL r5.1).length))] [] (.bindh (og := ix (bytesL r5.1) (iw .i64 (r12.2.1 + Int.tmod (iw .i64 a3) (iw .i64 ((r5.1.size : Int) - r12.2.1))))) ⟨some 138, .iaddrS 1 136 137, none, []⟩ (fun x13 => [(138, .one (.aptr 124 0 ((iw .i64 (r12.2.1 + Int.tmod (iw .i64 a3) (iw .i64 ((r5.1.size : Int) - r12.2.1)))).toNat) 0))]) (fun x13 => []) (by kernel_rfl) (fun x13 hr => pe (eff_idxO (c := (codI .u8)) (l := bytesL r5.1) (g := 0) (el := 1000000005) (k := .i64) (n := IntKind.wrap .i64 (r12.2.1 + Int.tmod (iw .i64 a3) (iw .i64 ((r5.1.size : Int) - r12.2.1)))) (by kernel_rfl) (by kernel_rfl) (by kernel_rfl) (by kernel_rfl) hr)) (fun x13 hx13 => ?_))))))))))))
  refine SimI.se ⟨some 139, .load false 1 138, none, []⟩ [(139, .one (li .u8 x13))] [] (pe (eff_loadO (c := (codI .u8)) (a := x13) (l := bytesL r5.1) (key := 124) (g := 0) (el := 1000000005) (off := 0) (i := (iw .i64 (r12.2.1 + Int.tmod (iw .i64 a3) (iw .i64 ((r5.1.size : Int) - r12.2.1)))).toNat) (by kernel_rfl) (by kernel_rfl) (ix_some hx13).2.2.2 (by kernel_rfl))) (.rn 2 [(141, .one (li .u8 (Int.tmod a4 8))), (140, .one (li .u8 a4))] [] (.gp 142 (.bin .shl 5 true false) [Operand.const (Value.int IntKind.u8 1), 141] none [] (fun hc => pr_shl _ _ _ .u8 .u8 1 (Int.tmod a4 8) hc) (.rn 1 [(143, .one (li .u8 (bitsI .xor .u8 x13 (shlI .u8 1 (Int.tmod a4 8)))))] [] (.bindh (og := ix (bytesL r5.1) (iw .i64 (r12.2.1 + Int.tmod (iw .i64 a3) (iw .i64 ((r5.1.size : Int) - r12.2.1))))) ⟨some 144, .iaddrS 1 134 135, none, []⟩ (fun x14 => [(144, .one (.aptr 124 0 ((iw .i64 (r12.2.1 + Int.tmod (iw .i64 a3) (iw .i64 ((r5.1.size : Int) - r12.2.1)))).toNat) 0))]) (fun x14 => []) (by kernel_rfl) (fun x14 hr => pe (eff_idxO (c := (codI .u8)) (l := bytesL r5.1) (g := 0) (el := 1000000005) (k := .i64) (n := IntKind.wrap .i64 (r12.2.1 + Int.tmod (iw .i64 a3) (iw .i64 ((r5.1.size : Int) - r12.2.1)))) (by kernel_rfl) (by kernel_rfl) (by kernel_rfl) (by kernel_rfl) hr)) (fun x14 hx14 => ?_)))))
  refine SimI.se ⟨none, .store 1 144 143, none, []⟩ [] [(124, some (.arr 1000000005 (codI .u8).sz 0 (((bytesL r5.1).set ((iw .i64 (r12.2.1 + Int.tmod (iw .i64 a3) (iw .i64 ((r5.1.size : Int) - r12.2.1)))).toNat) (bitsI .xor .u8 x13 (shlI .u8 1 (Int.tmod a4 8))))).length (getOf (codI .u8) ((bytesL r5.1).set ((iw .i64 (r12.2.1 + Int.tmod (iw .i64 a3) (iw .i64 ((r5.1.size : Int) - r12.2.1)))).toNat) (bitsI .xor .u8 x13 (shlI .u8 1 (Int.tmod a4 8)))))))] (pOp_eff_ (by kernel_rfl) (by kernel_rfl) (eff_storeO (c := (codI .u8)) (key := 124) (g := 0) (el := 1000000005) (l := bytesL r5.1) (i := (iw .i64 (r12.2.1 + Int.tmod (iw .i64 a3) (iw .i64 ((r5.1.size : Int) - r12.2.1)))).toNat) (b := bitsI .xor .u8 x13 (shlI .u8 1 (Int.tmod a4 8))) (by kernel_rfl) (by kernel_rfl) (by kernel_rfl) (ix_some hx14).2.2.1 (fun _ => rfl) rfl (by kernel_rfl))) (.slot 26 (.one (.osl 124 0 0 (((bytesL r5.1).set ((iw .i64 (r12.2.1 + Int.tmod (iw .i64 a3) (iw .i64 ((r5.1.size : Int) - r12.2.1)))).toNat) (bitsI .xor .u8 x13 (shlI .u8 1 (Int.tmod a4 8))))).length)) (Eq.trans (b := PV.one (.osl 124 0 0 (bytesL r5.1).length)) (by kernel_rfl) (congrArg (fun z => PV.one (Lf.osl 124 0 0 z)) List.length_set.symm)) (.dn (.thenN (.st 1 [(146, .one (.osl 124 0 0 (((bytesL r5.1).set ((iw .i64 (r12.2.1 + Int.tmod (iw .i64 a3) (iw .i64 ((r5.1.size : Int) - r12.2.1)))).toNat) (bitsI .xor .u8 x13 (shlI .u8 1 (Int.tmod a4 8))))).length))] [] (.se ⟨some 147, .b2s 146, none, []⟩ [(147, qs (mkStr ((bytesL r5.1).set ((iw .i64 (r12.2.1 + Int.tmod (iw .i64 a3) (iw .i64 ((r5.1.size : Int) - r12.2.1)))).toNat) (bitsI .xor .u8 x13 (shlI .u8 1 (Int.tmod a4 8))))))] [] (pe (eff_b2sO (l := ((bytesL r5.1).set ((iw .i64 (r12.2.1 + Int.tmod (iw .i64 a3) (iw .i64 ((r5.1.size : Int) - r12.2.1)))).toNat) (bitsI .xor .u8 x13 (shlI .u8 1 (Int.tmod a4 8))))) (k := 124) (g := 0) (el := 1000000005) (by kernel_rfl) (by kernel_rfl))) (.rn 1 [(148, qs a2)] [] (.gp 149 (.bin .add 9 false false) [147, 148] none [] (fun hc => pr_addS _ _ _ (mkStr ((bytesL r5.1).set ((iw .i64 (r12.2.1 + Int.tmod (iw .i64 a3) (iw .i64 ((r5.1.size : Int) - r12.2.1)))).toNat) (bitsI .xor .u8 x13 (shlI .u8 1 (Int.tmod a4 8))))) a2 hc) (.cl 150 true [[]] 14 [149] none (fun r15 => .tup (W120 r15)) [qs ((mkStr ((bytesL r5.1).set ((iw .i64 (r12.2.1 + Int.tmod (iw .i64 a3) (iw .i64 ((r5.1.size : Int) - r12.2.1)))).toNat) (bitsI .xor .u8 x13 (shlI .u8 1 (Int.tmod a4 8))))) ++ a2)] (F14_ok _ _) (fun r15 => ?_)))))))))
  refine SimI.rd 8 [(30, qj r15.2.2), (29, qj r15.2.1), (28, qp 28 0), (153, qj r15.2.2), (152, qj r15.2.1), (151, .agg (W3 r15)), (145, .tup (W120 r15))] [(28, some (.cells (W3 r15))), (28, some (.cells W10))] (.thenN (.st 3 (rp [156, 155] (qb (r11.2.2 == 10)) ++ [(154, qj r11.2.2)]) [] (.sp 156 _ ?_ ?_)))
  ·refine SimI.rn 4 (rp [160, 159, 158] (qb (r12.2.2 == 0)) ++ [(157, qj r12.2.2)]) [] (.sp 160 _ ?_ ?_)
   ·refine SimI.rn 4 (rp [164, 163, 162] (qb (r15.2.2 == 12)) ++ [(161, qj r15.2.2)]) [] (.sp 164 _ ?_ ?_)
    ·exact SimI.rd 4 (rp [12, 167, 166] (qb (r15.2.1 == 0)) ++ [(165, qj r15.2.1)]) [] (.thenN (.ret .fn))
    ·exact SimI.rd 4 [(12, qb false), (167, qb false), (166, tz), (165, tz)] [] (.thenN (.ret .fn))
   ·exact SimI.rd 8 [(12, qb false), (167, qb false), (166, tz), (165, tz), (164, qb false), (163, qb false), (162, tz), (161, tz)] [] (.thenN (.ret .fn))
  ·exact SimI.rd 12 [(12, qb false), (167, qb false), (166, tz), (165, tz), (164, qb false), (163, qb false), (162, tz), (161, tz), (160, qb false), (159, qb false), (158, tz), (157, tz)] [] (.thenN (.ret .fn))
def F4 (n : Nat) (a0 a1 : Note) (a2 : ByteArray) (a3 a4 a5 : Int) : Option Bool :=
 ((some true)).bind fun (r1 : Bool) =>
 if !(r1) then
  some false
 else
  (F8 n a0).bind fun (r2 : Bool) =>
  if !(r2) then
   some true
  else
   (F8 n a1).bind fun (r3 : Bool) =>
   if !(r3) then
    some true
   else
    if decide ((50 : Int) < (a2.size : Int)) then
     some true
    else
     (F11 n a0 4).bind fun (r4 : Bool) =>
     if !(r4) then
      some true
     else
      (F9 n a0).bind fun (r5 : (ByteArray × Int)) =>
      if r5.1.size + a2.size ≤ 9223372036854775807 then
       (F14 n (r5.1 ++ a2)).bind fun (r6 : (Note × Int × Int)) =>
       (F9 n a1).bind fun (r7 : (ByteArray × Int)) =>
       if r5.2 != 0 then
        some false
       else
        if r6.2.2 != 0 then
         some false
        else
         if r6.2.1 != (r5.1.size : Int) then
          some false
         else
          (F13 n a0 r6.1).bind fun (r8 : Bool) =>
          if !(r8) then
           some false
          else
           if decide ((r5.1.size : Int) < 5) then
            some false
           else
            if r7.2 == 0 then
             (F13 n a0 a1).bind fun (r9 : Bool) =>
             if !((r5.1.toList == r7.1.toList) == r9) then
              some false
             else
              F4_j10 n a2 a3 a4 a5 r5
            else
             F4_j10 n a2 a3 a4 a5 r5
      else none
theorem F4_ok (n : Nat) (a0 a1 : Note) (a2 : ByteArray) (a3 a4 a5 : Int) : ∀ r, F4 n a0 a1 a2 a3 a4 a5 = some r → D 4 [.agg [li .i64 a0.From, li .i64 a0.Beat, vw Thing.cod a0.Moved, vw Hand.cod a0.Hands, vw Thing.cod a0.Given, vw Command.cod a0.Watch], .agg [li .i64 a1.From, li .i64 a1.Beat, vw Thing.cod a1.Moved, vw Hand.cod a1.Hands, vw Thing.cod a1.Given, vw Command.cod a1.Watch], .one (ls a2), .one (li .u16 a3), .one (li .u8 a4), .one (li .u8 a5)] [] = some (F4_e r) := by
 refine fn_to (D := D) (n := n + 8) (nt := 168) (rs := pc4_r) (c := p4c47) (L := [(0, .agg (w0 a0)), (1, .agg (w0 a1)), (2, qs a2), (3, .one (li .u16 a3)), (4, .one (li .u8 a4)), (5, .one (li .u8 a5))]) (M := []) (k := 0) rfl rfl rfl rfl rfl rfl rfl ?_
 unfold F4
 refine Sim.sr 3 [(12, qb false), (7, qp 7 0), (6, qp 6 0)] [(7, some (.cells (w0 a1))), (6, some (.cells (w0 a0)))] (.seq (.seq (.region0 (.cl 31 true [] 7 [] none (fun r1 => qb r1) [] (F7_ok n) (fun r1 => ?_)))))
 refine SimI.rd 1 [(32, qb (!(r1)))] [] (.thenN (.cd _ ?_ ?_))
 ·exact Sim.sr 1 [(12, qb false)] [] (.ret (.thenR .fn))
 ·refine Sim.skip (.thenN (.seq (.st 1 [(33, .agg (w0 a0))] [] (.cl 34 true [[(2, 11), (3, 2), (4, 11), (5, 22)]] 8 [33] none (fun r2 => qb r2) [.agg (w0 a0)] (F8_ok _ _) (fun r2 => ?_)))))
  refine SimI.rn 2 [(36, qb (!(r2))), (35, qb (!(r2)))] [] (.sp 36 _ ?_ ?_)
  ·exact SimI.rd 14 [(50, qb true), (49, tz), (48, tz), (47, tz), (46, qb true), (45, qb true), (44, tz), (43, tz), (42, tz), (41, qb true), (40, qb true), (39, tz), (38, tz), (37, tz)] [] (.thenN (.ct (.sr 1 [(12, qb true)] [] (.ret (.thenR .fn)))))
  ·refine SimI.rn 1 [(37, .agg (w0 a1))] [] (.cl 38 true [[(2, 11), (3, 2), (4, 11), (5, 22)]] 8 [37] (some (36, false)) (fun r3 => qb r3) [.agg (w0 a1)] (F8_ok _ _) (fun r3 => ?_))
   refine SimI.rn 3 (rp [41, 40, 39] (qb (!(r3)))) [] (.sp 41 _ ?_ ?_)
   ·exact SimI.rd 9 [(50, qb true), (49, tz), (48, tz), (47, tz), (46, qb true), (45, qb true), (44, tz), (43, tz), (42, tz)] [] (.thenN (.ct (.sr 1 [(12, qb true)] [] (.ret (.thenR .fn)))))
   ·refine SimI.rn 5 (rp [46, 45, 44] (qb (decide ((50 : Int) < (a2.size : Int)))) ++ [(43, qj (a2.size : Int)), (42, qs a2)]) [] (.sp 46 _ ?_ ?_)
    ·exact SimI.rd 4 [(50, qb true), (49, tz), (48, tz), (47, tz)] [] (.thenN (.ct (.sr 1 [(12, qb true)] [] (.ret (.thenR .fn)))))
    ·refine SimI.rn 1 [(47, .agg (w0 a0))] [] (.cl 48 true [[(2, 11), (3, 2), (4, 11), (5, 22)], []] 11 [47, kk 4] (some (46, false)) (fun r4 => qb r4) [.agg (w0 a0), qj 4] (F11_ok _ _ _) (fun r4 => ?_))
     refine SimI.rd 2 [(50, qb (!(r4))), (49, qb (!(r4)))] [] (.thenN (.cd _ ?_ ?_))
     ·exact Sim.sr 1 [(12, qb true)] [] (.ret (.thenR .fn))
     ·refine Sim.skip (.thenN (.st 1 [(52, .agg (w0 a0))] [] (.cl 53 true [[(2, 11), (3, 2), (4, 11), (5, 22)]] 9 [52] none (fun r5 => .tup [qs r5.1, qj r5.2]) [.agg (w0 a0)] (F9_ok _ _) (fun r5 => ?_))))
      refine SimI.rd 5 [(14, qj r5.2), (13, qs r5.1), (55, qj r5.2), (54, qs r5.1), (51, .tup [qs r5.1, qj r5.2])] [] (.thenN (.st 2 [(58, qs a2), (57, qs r5.1)] [] (.gp 59 (.bin .add 9 false false) [57, 58] none [] (fun hc => pr_addS _ _ _ r5.1 a2 hc) (.cl 60 true [[]] 14 [59] none (fun r6 => .tup (W120 r6)) [qs (r5.1 ++ a2)] (F14_ok _ _) (fun r6 => ?_)))))
      refine SimI.rd 8 [(17, qj r6.2.2), (16, qj r6.2.1), (15, qp 15 0), (63, qj r6.2.2), (62, qj r6.2.1), (61, .agg (W3 r6)), (56, .tup (W120 r6))] [(15, some (.cells (W3 r6))), (15, some (.cells W10))] (.thenN (.st 1 [(65, .agg (w0 a1))] [] (.cl 66 true [[(2, 11), (3, 2), (4, 11), (5, 22)]] 9 [65] none (fun r7 => .tup [qs r7.1, qj r7.2]) [.agg (w0 a1)] (F9_ok _ _) (fun r7 => ?_))))
      refine SimI.rd 5 [(19, qj r7.2), (18, qs r7.1), (68, qj r7.2), (67, qs r7.1), (64, .tup [qs r7.1, qj r7.2])] [] (.thenN (.seq (.st 3 [(71, qb (r5.2 != 0)), (70, qb (r5.2 != 0)), (69, qj r5.2)] [] (.sp 71 _ ?_ ?_))))
      ·exact SimI.rd 33 ([(104, qb true)] ++ rp W76 tz ++ [(92, qb true), (91, qb true), (90, tz), (89, tz), (88, tz), (87, qb true), (86, qb true), (85, tz), (84, tz), (83, tz), (82, tz), (81, qb true), (80, qb true), (79, tz), (78, tz), (77, tz), (76, tz), (75, qb true), (74, qb true), (73, tz), (72, tz)]) [] (.thenN (.ct (.sr 1 [(12, qb false)] [] (.ret (.thenR .fn)))))
      ·refine SimI.rn 4 (rp [75, 74, 73] (qb (r6.2.2 != 0)) ++ [(72, qj r6.2.2)]) [] (.sp 75 _ ?_ ?_)
       ·exact SimI.rd 29 ([(104, qb true)] ++ rp W76 tz ++ [(92, qb true), (91, qb true), (90, tz), (89, tz), (88, tz), (87, qb true), (86, qb true), (85, tz), (84, tz), (83, tz), (82, tz), (81, qb true), (80, qb true), (79, tz), (78, tz), (77, tz), (76, tz)]) [] (.thenN (.ct (.sr 1 [(12, qb false)] [] (.ret (.thenR .fn)))))
       ·refine SimI.rn 6 (rp [81, 80, 79] (qb (r6.2.1 != (r5.1.size : Int))) ++ [(78, qj (r5.1.size : Int)), (77, qs r5.1), (76, qj r6.2.1)]) [] (.sp 81 _ ?_ ?_)
        ·exact SimI.rd 23 ([(104, qb true)] ++ rp W76 tz ++ [(92, qb true), (91, qb true), (90, tz), (89, tz), (88, tz), (87, qb true), (86, qb true), (85, tz), (84, tz), (83, tz), (82, tz)]) [] (.thenN (.ct (.sr 1 [(12, qb false)] [] (.ret (.thenR .fn)))))
        ·refine SimI.rn 2 [(83, .agg (W3 r6)), (82, .agg (w0 a0))] [] (.cl 84 true [[(2, 11), (3, 2), (4, 11), (5, 22)], [(2, 11), (3, 2), (4, 11), (5, 22)]] 13 [82, 83] (some (81, false)) (fun r8 => qb r8) [.agg (w0 a0), .agg (W3 r6)] (F13_ok _ _ _) (fun r8 => ?_))
         refine SimI.rn 3 (rp [87, 86, 85] (qb (!(r8)))) [] (.sp 87 _ ?_ ?_)
         ·exact SimI.rd 17 ([(104, qb true)] ++ rp W76 tz ++ [(92, qb true), (91, qb true), (90, tz), (89, tz), (88, tz)]) [] (.thenN (.ct (.sr 1 [(12, qb false)] [] (.ret (.thenR .fn)))))
         ·refine SimI.rn 5 (rp [92, 91, 90] (qb (decide ((r5.1.size : Int) < 5))) ++ [(89, qj (r5.1.size : Int)), (88, qs r5.1)]) [] (.sp 92 _ ?_ ?_)
          ·exact SimI.rd 12 ([(104, qb true)] ++ rp W76 tz) [] (.thenN (.ct (.sr 1 [(12, qb false)] [] (.ret (.thenR .fn)))))
          ·refine SimI.rn 3 [(95, qb (r7.2 == 0)), (94, qb (r7.2 == 0)), (93, qj r7.2)] [] (.sp 95 _ ?_ ?_)
           ·refine SimI.rn 5 [(100, .agg (w0 a1)), (99, .agg (w0 a0)), (98, qb (r5.1.toList == r7.1.toList)), (97, qs r7.1), (96, qs r5.1)] [] (.cl 101 true [[(2, 11), (3, 2), (4, 11), (5, 22)], [(2, 11), (3, 2), (4, 11), (5, 22)]] 13 [99, 100] (some (95, true)) (fun r9 => qb r9) [.agg (w0 a0), .agg (w0 a1)] (F13_ok _ _ _) (fun r9 => ?_))
            refine SimI.rd 3 (rp [104, 103, 102] (qb (!((r5.1.toList == r7.1.toList) == r9)))) [] (.thenN (.cd _ ?_ ?_))
            ·exact Sim.sr 1 [(12, qb false)] [] (.ret (.thenR .fn))
            ·refine Sim.skip (.thenN (.pr [2, 3, 4, 5, 13] [6, 7, 15] [] [(2, qs a2), (3, .one (li .u16 a3)), (4, .one (li .u8 a4)), (5, .one (li .u8 a5)), (13, qs r5.1)] [] ?_))
             exact F4_j10_ok n a2 a3 a4 a5 r5
           ·refine SimI.rd 9 ([(104, qb false), (103, qb false)] ++ rp [102, 101, 100, 99, 98, 97, 96] tz) [] (.thenN (.cf (.skip (.thenN (.pr [2, 3, 4, 5, 13] [6, 7, 15] [] [(2, qs a2), (3, .one (li .u16 a3)), (4, .one (li .u8 a4)), (5, .one (li .u8 a5)), (13, qs r5.1)] [] ?_)))))
            exact F4_j10_ok n a2 a3 a4 a5 r5
end Go.Proofs.Ytpjejnefegdoeaa
