/-
  Functions of the program as functions of Lean. No condition.
-/
import Derived.Test.YtpjejnefegdoeaaNoteTellsP0
namespace Go.Proofs.Ytpjejnefegdoeaa
open Go Go.Rx
set_option maxRecDepth 100000
set_option linter.unusedVariables false
set_option linter.unusedSimpArgs false
set_option linter.unnecessarySimpa false
-- 9: vedette/note.Bytes
def F9_e : (ByteArray × Int) → PV × List Ob := fun r => (.tup [.one (ls r.1), .one (li .i64 r.2)], [])
def F9_l27 (n : Nat) (a0 : Note) : Nat → Int → (List Int) → Option (ByteArray × Int)
  | 0, _, _ => none
  | m + 1, i25, l26 =>
    if decide (i25 < ((a0.Watch).length : Int)) then
      (ix a0.Watch i25).bind fun (x28 : Command) =>
      (F21 n x28).bind fun (r29 : (ByteArray × Int)) =>
      (bldAdd l26 r29.1).bind fun (l30 : (List Int)) =>
      (F9_l27 n a0 m) (IntKind.wrap .i64 (i25 + 1)) l30
    else
      (bldLen l26).bind fun (i31 : Int) =>
      if decide ((40000 : Int) < i31) then
        some (ByteArray.empty, 13)
      else
        (bldStr l26).bind fun (s32 : ByteArray) =>
        (F23 n s32).bind fun (r33 : ByteArray) =>
        some (r33, 0)
theorem F9_l27_ok (n : Nat) (a0 : Note) : ∀ (m : Nat) (i25 : Int) (l26 : (List Int)), SimL Try.prog D (n + 8) m p9c44 [(8, qp 8 0), (75, .one (vw Command.cod a0.Watch)), (76, qj ((a0.Watch).length : Int)), (77, qj i25)] [(8, some (.tcells 64 [.ptr 8 0, .osl 400064 0 0 (l26).length])), (400064, some (.arr 5 (codI .u8).sz 0 (l26).length (getOf (codI .u8) l26)))] (F9_l27 n a0 m i25 l26) (QB 2 (QT Try.prog D (n + 8) p9c58 (QF false pc9_r 0 F9_e))) := by
  intro m_l27
  induction m_l27 with
  | zero => intro i25 l26; exact SimL.zero'  rfl
  | succ m_l27 ih_l27 =>
    intro i25 l26
    refine SimL.succ ?_
    unfold F9_l27
    refine Sim.seq (.rg [(8, qp 8 0), (75, .one (vw Command.cod a0.Watch)), (76, qj ((a0.Watch).length : Int)), (77, qj i25)] [(8, some (.tcells 64 [.ptr 8 0, .osl 400064 0 0 (l26).length])), (400064, some (.arr 5 (codI .u8).sz 0 (l26).length (getOf (codI .u8) l26)))] (.rd 1 [(78, qb (decide (i25 < ((a0.Watch).length : Int))))] [] (.thenN (.seq (.cond (decide (i25 < ((a0.Watch).length : Int))) (by kernel_rfl) ?_ ?_)))))
    · refine Sim.skip (.thenN (.seq (.block (.seq (.region0 (.bind (og := ix a0.Watch i25) ⟨some 79, POp.iaddrS 22 (Operand.tmp 75) (Operand.tmp 77), none, []⟩ (fun x28 => [(79, .one (.eptr (Command.cod.enc x28) 0))]) (fun x28 => []) (by kernel_rfl) (fun x28 hr => pOp_eff (by kernel_rfl) (by kernel_rfl) (eff_idx (c := Command.cod) (l := a0.Watch) (k := .i64) (n := i25) (by kernel_rfl) (by kernel_rfl) (by kernel_rfl) hr)) (fun x28 => ?_)))))))
      refine SimI.rd 3 [(12, qp 12 0), (80, .agg (Command.cells x28))] [(12, some (.cells (Command.cells x28))), (12, some (.cells [lj 0, lj 0, lj 0, lj 0, lj 0, lj 0, lj 0, ls be, lj 0, ls be, lj 0, ls be, lj 0, ls be, lj 0, ls be, lj 0, lj 0, lj 0, lj 0, lj 0, lj 0]))] (.thenN (.st 1 [(82, .agg (Command.cells x28))] [] (.cl 83 true [[]] 21 [82] none (fun r29 => .tup [qs r29.1, qj r29.2]) [.agg (Command.cells x28)] (F21_ok n x28) (fun r29 => ?_))))
      refine SimI.rd 5 [(14, qj r29.2), (13, qs r29.1), (85, qj r29.2), (84, qs r29.1), (81, .tup [qs r29.1, qj r29.2])] [] (.thenN (.region0 (.rn 1 [(86, qs r29.1)] [] (.bind (og := bldAdd l26 r29.1) ⟨some 87, POp.gcall false false [8, 300000, 300001, 300002, 300003, 300004, 300005, 300006, 300007, 400064] [[(1, 1)], []] 19 [8, 86], none, []⟩ (fun l30 => [(87, .tup [qj (r29.1.size : Int), .one (.val (.nilIface))])]) (fun l30 => [(8, some (.tcells 64 [.ptr 8 0, .osl 400064 (0 + 1) 0 (l30).length])), (400064, some (.arr 5 (codI .u8).sz (0 + 1) (l30).length (getOf (codI .u8) l30)))]) (by kernel_rfl) (fun l30 hr => pOp_eff (by kernel_rfl) (by kernel_rfl) (eff_gcall (ks := [8, 400064]) (rks := []) (new := []) (ARGS := [qp 8 0, qs r29.1]) (args1 := [qp 8 0, qs r29.1]) (args2 := [qp 1000000 0, qs r29.1]) (os := [.tcells 64 [.ptr 1000000 0, .osl 1000001 0 0 (l26).length], .arr 5 (codI .u8).sz 0 (l26).length (getOf (codI .u8) l26)]) (os' := [.tcells 64 [.ptr 1000000 0, .osl 1000001 1 0 (l30).length], .arr 5 (codI .u8).sz 1 (l30).length (getOf (codI .u8) l30)]) (os1 := [.tcells 64 [.ptr 1000000 0, .osl 1000001 1 0 (l30).length], .arr 5 (codI .u8).sz 1 (l30).length (getOf (codI .u8) l30)]) (res := .tup [qj (r29.1.size : Int), .one (.val (.nilIface))]) (res1 := .tup [qj (r29.1.size : Int), .one (.val (.nilIface))]) (r := .tup [qj (r29.1.size : Int), .one (.val (.nilIface))]) (N := [(8, some (.tcells 64 [.ptr 8 0, .osl 400064 (0 + 1) 0 (l30).length])), (400064, some (.arr 5 (codI .u8).sz (0 + 1) (l30).length (getOf (codI .u8) l30)))]) (by kernel_rfl) (readA_ow (readA_keep (by kernel_rfl) (readA_keep (by kernel_rfl) (readA_nil)))) (by kernel_rfl) (by kernel_rfl) (by kernel_rfl) (by kernel_rfl) (D_add (a := .ptr 1000000 0) (by kernel_rfl) (l := l26) (s := r29.1) l30 hr) (by kernel_rfl) (by kernel_rfl) (by kernel_rfl) rfl (by kernel_rfl) (by kernel_rfl) (by kernel_rfl))) (fun l30 => ?_)))))
      refine SimI.dn (.blockN (.thenN (.region0 (.rd 2 [(77, qj (iw .i64 (i25 + 1))), (88, qj (iw .i64 (i25 + 1)))] [] (.loopN (.pr [8, 75, 76, 77] [1, 8, 12, 400064] [] [(8, qp 8 0), (75, .one (vw Command.cod a0.Watch)), (76, qj ((a0.Watch).length : Int)), (77, qj (iw .i64 (i25 + 1)))] [(8, some (.tcells 64 [.ptr 8 0, .osl 400064 0 0 (l30).length])), (400064, some (.arr 5 (codI .u8).sz 0 (l30).length (getOf (codI .u8) l30)))] ?_))))))
      exact ih_l27 (iw .i64 (i25 + 1)) l30
    · refine Sim.exit (.thenX (.loopX (.blockX (.thenN (.seq (.seq (.region0 (.bind (og := bldLen l26) ⟨some 89, POp.gcall false false [8, 300000, 300001, 300002, 300003, 300004, 300005, 300006, 300007, 400064] [[(1, 1)]] 22 [8], none, []⟩ (fun i31 => [(89, qj i31)]) (fun i31 => [(8, some (.tcells 64 [.ptr 8 0, .osl 400064 (0 + 0) 0 (l26).length])), (400064, some (.arr 5 (codI .u8).sz (0 + 0) (l26).length (getOf (codI .u8) l26)))]) (by kernel_rfl) (fun i31 hr => pOp_eff (by kernel_rfl) (by kernel_rfl) (eff_gcall (ks := [8, 400064]) (rks := []) (new := []) (ARGS := [qp 8 0]) (args1 := [qp 8 0]) (args2 := [qp 1000000 0]) (os := [.tcells 64 [.ptr 1000000 0, .osl 1000001 0 0 (l26).length], .arr 5 (codI .u8).sz 0 (l26).length (getOf (codI .u8) l26)]) (os' := [.tcells 64 [.ptr 1000000 0, .osl 1000001 0 0 (l26).length], .arr 5 (codI .u8).sz 0 (l26).length (getOf (codI .u8) l26)]) (os1 := [.tcells 64 [.ptr 1000000 0, .osl 1000001 0 0 (l26).length], .arr 5 (codI .u8).sz 0 (l26).length (getOf (codI .u8) l26)]) (res := qj i31) (res1 := qj i31) (r := qj i31) (N := [(8, some (.tcells 64 [.ptr 8 0, .osl 400064 (0 + 0) 0 (l26).length])), (400064, some (.arr 5 (codI .u8).sz (0 + 0) (l26).length (getOf (codI .u8) l26)))]) (by kernel_rfl) (readA_ow (readA_keep (by kernel_rfl) (readA_nil))) (by kernel_rfl) (by kernel_rfl) (by kernel_rfl) (by kernel_rfl) (D_len (a := .ptr 1000000 0) (by kernel_rfl) (l := l26) i31 hr) (by kernel_rfl) (by kernel_rfl) (by kernel_rfl) rfl (by kernel_rfl) (by kernel_rfl) (by kernel_rfl))) (fun i31 => ?_)))))))))
      refine SimI.rd 1 [(90, qb (decide ((40000 : Int) < i31)))] [] (.thenN (.cond (decide ((40000 : Int) < i31)) (by kernel_rfl) ?_ ?_))
      · exact Sim.sr 2 [(3, qj 13), (2, qs be)] [] (.ret (.thenR .fn))
      · refine Sim.skip (.thenN (.seq (.region0 (.bind (og := bldStr l26) ⟨some 91, POp.gcall false false [8, 300000, 300001, 300002, 300003, 300004, 300005, 300006, 300007, 400064] [[(1, 1)]] 24 [8], none, []⟩ (fun s32 => [(91, qs s32)]) (fun s32 => [(8, some (.tcells 64 [.ptr 8 0, .osl 400064 ((0 + 0) + 0) 0 (l26).length])), (400064, some (.arr 5 (codI .u8).sz ((0 + 0) + 1) (([] : List Int)).length (getOf (codI .u8) ([] : List Int))))]) (by kernel_rfl) (fun s32 hr => pOp_eff (by kernel_rfl) (by kernel_rfl) (eff_gcall (ks := [8, 400064]) (rks := []) (new := []) (ARGS := [qp 8 0]) (args1 := [qp 8 0]) (args2 := [qp 1000000 0]) (os := [.tcells 64 [.ptr 1000000 0, .osl 1000001 0 0 (l26).length], .arr 5 (codI .u8).sz 0 (l26).length (getOf (codI .u8) l26)]) (os' := [.tcells 64 [.ptr 1000000 0, .osl 1000001 0 0 (l26).length], .arr 5 (codI .u8).sz 1 (([] : List Int)).length (getOf (codI .u8) ([] : List Int))]) (os1 := [.tcells 64 [.ptr 1000000 0, .osl 1000001 0 0 (l26).length], .arr 5 (codI .u8).sz 1 (([] : List Int)).length (getOf (codI .u8) ([] : List Int))]) (res := qs s32) (res1 := qs s32) (r := qs s32) (N := [(8, some (.tcells 64 [.ptr 8 0, .osl 400064 ((0 + 0) + 0) 0 (l26).length])), (400064, some (.arr 5 (codI .u8).sz ((0 + 0) + 1) (([] : List Int)).length (getOf (codI .u8) ([] : List Int))))]) (by kernel_rfl) (readA_ow (readA_keep (by kernel_rfl) (readA_nil))) (by kernel_rfl) (by kernel_rfl) (by kernel_rfl) (by kernel_rfl) (D_str (a := .ptr 1000000 0) (by kernel_rfl) (l := l26) s32 hr) (by kernel_rfl) (by kernel_rfl) (by kernel_rfl) rfl (by kernel_rfl) (by kernel_rfl) (by kernel_rfl))) (fun s32 => ?_)))))
        refine SimI.cl 92 true [[]] 23 [91] none (fun r33 => qs r33) [qs s32] (F23_ok n s32) (fun r33 => ?_)
        exact SimI.rd 2 [(3, qj 0), (2, qs r33)] [] (.thenN (.ret .fn))

def F9_l14 (n : Nat) (a0 : Note) : Nat → Int → (List Int) → Option (ByteArray × Int)
  | 0, _, _ => none
  | m + 1, i12, l13 =>
    if decide (i12 < ((a0.Hands).length : Int)) then
      (ix a0.Hands i12).bind fun (x15 : Hand) =>
      (F20 n (IntKind.wrap .u64 x15.Cell)).bind fun (r16 : ByteArray) =>
      (F20 n (IntKind.wrap .u64 x15.To)).bind fun (r17 : ByteArray) =>
      if r16.size + r17.size ≤ 9223372036854775807 then
        (bldAdd l13 (r16 ++ r17)).bind fun (l18 : (List Int)) =>
        (F9_l14 n a0 m) (IntKind.wrap .i64 (i12 + 1)) l18
      else none
    else
      (F20 n (IntKind.wrap .u64 ((a0.Watch).length : Int))).bind fun (r19 : ByteArray) =>
      (bldAdd l13 r19).bind fun (l20 : (List Int)) =>
      F9_l27 n a0 (n + 8) 0 l20
theorem F9_l14_ok (n : Nat) (a0 : Note) : ∀ (m : Nat) (i12 : Int) (l13 : (List Int)), SimL Try.prog D (n + 8) m p9c25 [(1, qp 1 0), (8, qp 8 0), (51, .one (vw Hand.cod a0.Hands)), (52, qj ((a0.Hands).length : Int)), (53, qj i12)] [(1, some (.cells [lj a0.From, lj a0.Beat, vw Thing.cod a0.Moved, vw Hand.cod a0.Hands, vw Thing.cod a0.Given, vw Command.cod a0.Watch])), (8, some (.tcells 64 [.ptr 8 0, .osl 400064 0 0 (l13).length])), (400064, some (.arr 5 (codI .u8).sz 0 (l13).length (getOf (codI .u8) l13)))] (F9_l14 n a0 m i12 l13) (QB 0 (QT Try.prog D (n + 8) p9c60 (QF false pc9_r 0 F9_e))) := by
  intro m_l14
  induction m_l14 with
  | zero => intro i12 l13; exact SimL.zero'  rfl
  | succ m_l14 ih_l14 =>
    intro i12 l13
    refine SimL.succ ?_
    unfold F9_l14
    refine Sim.seq (.rg [(1, qp 1 0), (8, qp 8 0), (51, .one (vw Hand.cod a0.Hands)), (52, qj ((a0.Hands).length : Int)), (53, qj i12)] [(1, some (.cells (w0 a0))), (8, some (.tcells 64 [.ptr 8 0, .osl 400064 0 0 (l13).length])), (400064, some (.arr 5 (codI .u8).sz 0 (l13).length (getOf (codI .u8) l13)))] (.rd 1 [(54, qb (decide (i12 < ((a0.Hands).length : Int))))] [] (.thenN (.seq (.cond (decide (i12 < ((a0.Hands).length : Int))) (by kernel_rfl) ?_ ?_)))))
    · refine Sim.skip (.thenN (.seq (.block (.seq (.region0 (.bind (og := ix a0.Hands i12) ⟨some 55, POp.iaddrS 2 (Operand.tmp 51) (Operand.tmp 53), none, []⟩ (fun x15 => [(55, .one (.eptr (Hand.cod.enc x15) 0))]) (fun x15 => []) (by kernel_rfl) (fun x15 hr => pOp_eff (by kernel_rfl) (by kernel_rfl) (eff_idx (c := Hand.cod) (l := a0.Hands) (k := .i64) (n := i12) (by kernel_rfl) (by kernel_rfl) (by kernel_rfl) hr)) (fun x15 => ?_)))))))
      refine SimI.rd 3 [(10, qp 10 0), (56, .agg [lj x15.Cell, lj x15.To])] [(10, some (.cells [lj x15.Cell, lj x15.To])), (10, some (.cells [lj 0, lj 0]))] (.thenN (.region0 (.rn 3 [(59, .one (li .u64 (iw .u64 x15.Cell))), (58, qj x15.Cell), (57, qp 10 0)] [] (.bind (og := F20 n (iw .u64 x15.Cell)) ⟨some 60, POp.call false [[]] 20 [59], none, [(59, Hint.imm)]⟩ (fun r16 => [(60, qs r16)]) (fun r16 => []) (by kernel_rfl) (fun r16 hr => pOp_eff (by kernel_rfl) (by kernel_rfl) (eff_call (ARGS := [.one (li .u64 (iw .u64 x15.Cell))]) (by kernel_rfl) (args_clean (by kernel_rfl) args_nil) (F20_ok n (iw .u64 x15.Cell) r16 hr) (by kernel_rfl))) (fun r16 => ?_)))))
      refine SimI.rn 3 [(63, .one (li .u64 (iw .u64 x15.To))), (62, qj x15.To), (61, qp 10 1)] [] (.bind (og := F20 n (iw .u64 x15.To)) ⟨some 64, POp.call false [[]] 20 [63], none, [(63, Hint.imm)]⟩ (fun r17 => [(64, qs r17)]) (fun r17 => []) (by kernel_rfl) (fun r17 hr => pOp_eff (by kernel_rfl) (by kernel_rfl) (eff_call (ARGS := [.one (li .u64 (iw .u64 x15.To))]) (by kernel_rfl) (args_clean (by kernel_rfl) args_nil) (F20_ok n (iw .u64 x15.To) r17 hr) (by kernel_rfl))) (fun r17 => ?_))
      refine SimI.guard (c := r16.size + r17.size ≤ 9223372036854775807) ⟨some 65, POp.prim (Prim.bin BinOp.add 9 false false) [60, 64], none, [(60, Hint.imm), (64, Hint.imm)]⟩ [(65, qs (r16 ++ r17))] [] (by kernel_rfl) (fun hc => pOp_eff (by kernel_rfl) (by kernel_rfl) (eff_prim (by kernel_rfl) (pr_addS _ _ _ r16 r17 hc))) (.bind (og := bldAdd l13 (r16 ++ r17)) ⟨some 66, POp.gcall false false [8, 300000, 300001, 300002, 300003, 300004, 300005, 300006, 300007, 400064] [[(1, 1)], []] 19 [8, 65], none, [(8, Hint.at_ 8 0), (65, Hint.imm)]⟩ (fun l18 => [(66, .tup [qj ((r16 ++ r17).size : Int), .one (.val (.nilIface))])]) (fun l18 => [(8, some (.tcells 64 [.ptr 8 0, .osl 400064 (0 + 1) 0 (l18).length])), (400064, some (.arr 5 (codI .u8).sz (0 + 1) (l18).length (getOf (codI .u8) l18)))]) (by kernel_rfl) (fun l18 hr => pOp_eff (by kernel_rfl) (by kernel_rfl) (eff_gcall (ks := [8, 400064]) (rks := []) (new := []) (ARGS := [qp 8 0, qs (r16 ++ r17)]) (args1 := [qp 8 0, qs (r16 ++ r17)]) (args2 := [qp 1000000 0, qs (r16 ++ r17)]) (os := [.tcells 64 [.ptr 1000000 0, .osl 1000001 0 0 (l13).length], .arr 5 (codI .u8).sz 0 (l13).length (getOf (codI .u8) l13)]) (os' := [.tcells 64 [.ptr 1000000 0, .osl 1000001 1 0 (l18).length], .arr 5 (codI .u8).sz 1 (l18).length (getOf (codI .u8) l18)]) (os1 := [.tcells 64 [.ptr 1000000 0, .osl 1000001 1 0 (l18).length], .arr 5 (codI .u8).sz 1 (l18).length (getOf (codI .u8) l18)]) (res := .tup [qj ((r16 ++ r17).size : Int), .one (.val (.nilIface))]) (res1 := .tup [qj ((r16 ++ r17).size : Int), .one (.val (.nilIface))]) (r := .tup [qj ((r16 ++ r17).size : Int), .one (.val (.nilIface))]) (N := [(8, some (.tcells 64 [.ptr 8 0, .osl 400064 (0 + 1) 0 (l18).length])), (400064, some (.arr 5 (codI .u8).sz (0 + 1) (l18).length (getOf (codI .u8) l18)))]) (by kernel_rfl) (readA_ow (readA_keep (by kernel_rfl) (readA_keep (by kernel_rfl) (readA_nil)))) (by kernel_rfl) (by kernel_rfl) (by kernel_rfl) (by kernel_rfl) (D_add (a := .ptr 1000000 0) (by kernel_rfl) (l := l13) (s := r16 ++ r17) l18 hr) (by kernel_rfl) (by kernel_rfl) (by kernel_rfl) rfl (by kernel_rfl) (by kernel_rfl) (by kernel_rfl))) (fun l18 => ?_))
      refine SimI.dn (.blockN (.thenN (.region0 (.rd 2 [(53, qj (iw .i64 (i12 + 1))), (67, qj (iw .i64 (i12 + 1)))] [] (.loopN (.pr [1, 8, 51, 52, 53] [1, 8, 10, 400064] [] [(1, qp 1 0), (8, qp 8 0), (51, .one (vw Hand.cod a0.Hands)), (52, qj ((a0.Hands).length : Int)), (53, qj (iw .i64 (i12 + 1)))] [(1, some (.cells (w0 a0))), (8, some (.tcells 64 [.ptr 8 0, .osl 400064 0 0 (l18).length])), (400064, some (.arr 5 (codI .u8).sz 0 (l18).length (getOf (codI .u8) l18)))] ?_))))))
      exact ih_l14 (iw .i64 (i12 + 1)) l18
    · refine Sim.exit (.thenX (.loopX (.blockX (.thenN (.st 4 [(71, .one (li .u64 (iw .u64 ((a0.Watch).length : Int)))), (70, qj ((a0.Watch).length : Int)), (69, .one (vw Command.cod a0.Watch)), (68, qp 1 5)] [] (.cl 72 true [[]] 20 [71] none (fun r19 => qs r19) [.one (li .u64 (iw .u64 ((a0.Watch).length : Int)))] (F20_ok n (iw .u64 ((a0.Watch).length : Int))) (fun r19 => ?_)))))))
      refine SimI.bind (og := bldAdd l13 r19) ⟨some 73, POp.gcall false false [8, 300000, 300001, 300002, 300003, 300004, 300005, 300006, 300007, 400064] [[(1, 1)], []] 19 [8, 72], none, []⟩ (fun l20 => [(73, .tup [qj (r19.size : Int), .one (.val (.nilIface))])]) (fun l20 => [(8, some (.tcells 64 [.ptr 8 0, .osl 400064 (0 + 1) 0 (l20).length])), (400064, some (.arr 5 (codI .u8).sz (0 + 1) (l20).length (getOf (codI .u8) l20)))]) (by kernel_rfl) (fun l20 hr => pOp_eff (by kernel_rfl) (by kernel_rfl) (eff_gcall (ks := [8, 400064]) (rks := []) (new := []) (ARGS := [qp 8 0, qs r19]) (args1 := [qp 8 0, qs r19]) (args2 := [qp 1000000 0, qs r19]) (os := [.tcells 64 [.ptr 1000000 0, .osl 1000001 0 0 (l13).length], .arr 5 (codI .u8).sz 0 (l13).length (getOf (codI .u8) l13)]) (os' := [.tcells 64 [.ptr 1000000 0, .osl 1000001 1 0 (l20).length], .arr 5 (codI .u8).sz 1 (l20).length (getOf (codI .u8) l20)]) (os1 := [.tcells 64 [.ptr 1000000 0, .osl 1000001 1 0 (l20).length], .arr 5 (codI .u8).sz 1 (l20).length (getOf (codI .u8) l20)]) (res := .tup [qj (r19.size : Int), .one (.val (.nilIface))]) (res1 := .tup [qj (r19.size : Int), .one (.val (.nilIface))]) (r := .tup [qj (r19.size : Int), .one (.val (.nilIface))]) (N := [(8, some (.tcells 64 [.ptr 8 0, .osl 400064 (0 + 1) 0 (l20).length])), (400064, some (.arr 5 (codI .u8).sz (0 + 1) (l20).length (getOf (codI .u8) l20)))]) (by kernel_rfl) (readA_ow (readA_keep (by kernel_rfl) (readA_keep (by kernel_rfl) (readA_nil)))) (by kernel_rfl) (by kernel_rfl) (by kernel_rfl) (by kernel_rfl) (D_add (a := .ptr 1000000 0) (by kernel_rfl) (l := l13) (s := r19) l20 hr) (by kernel_rfl) (by kernel_rfl) (by kernel_rfl) rfl (by kernel_rfl) (by kernel_rfl) (by kernel_rfl))) (fun l20 => ?_)
      refine SimI.dn (.thenN (.seq (.sr 4 [(77, qj 0), (76, qj ((a0.Watch).length : Int)), (75, .one (vw Command.cod a0.Watch)), (74, qp 1 5)] [] (.block (.loop (.pr [8, 75, 76, 77] [1, 8, 12, 400064] [] [(8, qp 8 0), (75, .one (vw Command.cod a0.Watch)), (76, qj ((a0.Watch).length : Int)), (77, qj 0)] [(8, some (.tcells 64 [.ptr 8 0, .osl 400064 0 0 (l20).length])), (400064, some (.arr 5 (codI .u8).sz 0 (l20).length (getOf (codI .u8) l20)))] ?_))))))
      exact F9_l27_ok n a0 (n + 8) 0 l20

def F9 (n : Nat) (a0 : Note) : Option (ByteArray × Int) :=
  (F11 n a0 4).bind fun (r1 : Bool) =>
  if !(r1) then
    some (ByteArray.empty, 11)
  else
    (F18 n a0.Moved).bind fun (r2 : (ByteArray × Int)) =>
    (F18 n a0.Given).bind fun (r3 : (ByteArray × Int)) =>
    (F20 n (IntKind.wrap .u64 a0.From)).bind fun (r4 : ByteArray) =>
    (F20 n (IntKind.wrap .u64 a0.Beat)).bind fun (r5 : ByteArray) =>
    if r4.size + r5.size ≤ 9223372036854775807 then
      if (r4 ++ r5).size + r2.1.size ≤ 9223372036854775807 then
        if ((r4 ++ r5) ++ r2.1).size + r3.1.size ≤ 9223372036854775807 then
          (F20 n (IntKind.wrap .u64 ((a0.Hands).length : Int))).bind fun (r6 : ByteArray) =>
          if (((r4 ++ r5) ++ r2.1) ++ r3.1).size + r6.size ≤ 9223372036854775807 then
            (bldAdd ([] : List Int) ((((r4 ++ r5) ++ r2.1) ++ r3.1) ++ r6)).bind fun (l7 : (List Int)) =>
            F9_l14 n a0 (n + 8) 0 l7
          else none
        else none
      else none
    else none
theorem F9_ok (n : Nat) (a0 : Note) : ∀ r, F9 n a0 = some r → D 9 [.agg [li .i64 a0.From, li .i64 a0.Beat, vw Thing.cod a0.Moved, vw Hand.cod a0.Hands, vw Thing.cod a0.Given, vw Command.cod a0.Watch]] [] = some (F9_e r) := by
  refine fn_to (D := D) (n := n + 8) (nt := 93) (rs := pc9_r) (c := p9c67) (L := [(0, .agg (w0 a0))]) (M := []) (k := 0) rfl rfl rfl rfl rfl rfl rfl ?_
  unfold F9
  refine Sim.sr 3 [(3, qj 0), (2, qs be), (1, qp 1 0)] [(1, some (.cells (w0 a0)))] (.seq (.st 1 [(15, .agg (w0 a0))] [] (.cl 16 true [[(2, 11), (3, 2), (4, 11), (5, 22)], []] 11 [15, Operand.const (Value.int IntKind.i64 4)] none (fun r1 => qb r1) [.agg (w0 a0), qj 4] (F11_ok n a0 4) (fun r1 => ?_))))
  refine SimI.rd 1 [(17, qb (!(r1)))] [] (.thenN (.cond (!(r1)) (by kernel_rfl) ?_ ?_))
  · exact Sim.sr 2 [(3, qj 11), (2, qs be)] [] (.ret (.thenR .fn))
  · refine Sim.skip (.thenN (.st 2 [(20, .one (vw Thing.cod a0.Moved)), (19, qp 1 2)] [] (.cl 21 true [[(0, 11)]] 18 [20] none (fun r2 => .tup [qs r2.1, qj r2.2]) [.one (vw Thing.cod a0.Moved)] (F18_ok n a0.Moved) (fun r2 => ?_))))
    refine SimI.rd 5 [(5, qj r2.2), (4, qs r2.1), (23, qj r2.2), (22, qs r2.1), (18, .tup [qs r2.1, qj r2.2])] [] (.thenN (.st 2 [(26, .one (vw Thing.cod a0.Given)), (25, qp 1 4)] [] (.cl 27 true [[(0, 11)]] 18 [26] none (fun r3 => .tup [qs r3.1, qj r3.2]) [.one (vw Thing.cod a0.Given)] (F18_ok n a0.Given) (fun r3 => ?_))))
    refine SimI.rd 5 [(7, qj r3.2), (6, qs r3.1), (29, qj r3.2), (28, qs r3.1), (24, .tup [qs r3.1, qj r3.2])] [] (.thenN (.sr 1 [(8, qp 8 0)] [(8, some (.tcells 64 [.val (.pointer none), .osl 400064 0 0 (([] : List Int)).length])), (400064, some (.arr 5 (codI .u8).sz 0 (([] : List Int)).length (getOf (codI .u8) ([] : List Int))))] (.st 3 [(32, .one (li .u64 (iw .u64 a0.From))), (31, qj a0.From), (30, qp 1 0)] [] (.bind (og := F20 n (iw .u64 a0.From)) ⟨some 33, POp.call false [[]] 20 [32], none, [(32, Hint.imm)]⟩ (fun r4 => [(33, qs r4)]) (fun r4 => []) (by kernel_rfl) (fun r4 hr => pOp_eff (by kernel_rfl) (by kernel_rfl) (eff_call (ARGS := [.one (li .u64 (iw .u64 a0.From))]) (by kernel_rfl) (args_clean (by kernel_rfl) args_nil) (F20_ok n (iw .u64 a0.From) r4 hr) (by kernel_rfl))) (fun r4 => ?_)))))
    refine SimI.rn 3 [(36, .one (li .u64 (iw .u64 a0.Beat))), (35, qj a0.Beat), (34, qp 1 1)] [] (.bind (og := F20 n (iw .u64 a0.Beat)) ⟨some 37, POp.call false [[]] 20 [36], none, [(36, Hint.imm)]⟩ (fun r5 => [(37, qs r5)]) (fun r5 => []) (by kernel_rfl) (fun r5 hr => pOp_eff (by kernel_rfl) (by kernel_rfl) (eff_call (ARGS := [.one (li .u64 (iw .u64 a0.Beat))]) (by kernel_rfl) (args_clean (by kernel_rfl) args_nil) (F20_ok n (iw .u64 a0.Beat) r5 hr) (by kernel_rfl))) (fun r5 => ?_))
    refine SimI.guard (c := r4.size + r5.size ≤ 9223372036854775807) ⟨some 38, POp.prim (Prim.bin BinOp.add 9 false false) [33, 37], none, [(33, Hint.imm), (37, Hint.imm)]⟩ [(38, qs (r4 ++ r5))] [] (by kernel_rfl) (fun hc => pOp_eff (by kernel_rfl) (by kernel_rfl) (eff_prim (by kernel_rfl) (pr_addS _ _ _ r4 r5 hc))) (.rn 1 [(39, qs r2.1)] [] (.guard (c := (r4 ++ r5).size + r2.1.size ≤ 9223372036854775807) ⟨some 40, POp.prim (Prim.bin BinOp.add 9 false false) [38, 39], none, [(38, Hint.imm), (39, Hint.imm)]⟩ [(40, qs ((r4 ++ r5) ++ r2.1))] [] (by kernel_rfl) (fun hc => pOp_eff (by kernel_rfl) (by kernel_rfl) (eff_prim (by kernel_rfl) (pr_addS _ _ _ (r4 ++ r5) r2.1 hc))) (.rn 1 [(41, qs r3.1)] [] (.guard (c := ((r4 ++ r5) ++ r2.1).size + r3.1.size ≤ 9223372036854775807) ⟨some 42, POp.prim (Prim.bin BinOp.add 9 false false) [40, 41], none, [(40, Hint.imm), (41, Hint.imm)]⟩ [(42, qs (((r4 ++ r5) ++ r2.1) ++ r3.1))] [] (by kernel_rfl) (fun hc => pOp_eff (by kernel_rfl) (by kernel_rfl) (eff_prim (by kernel_rfl) (pr_addS _ _ _ ((r4 ++ r5) ++ r2.1) r3.1 hc))) (.rn 4 [(46, .one (li .u64 (iw .u64 ((a0.Hands).length : Int)))), (45, qj ((a0.Hands).length : Int)), (44, .one (vw Hand.cod a0.Hands)), (43, qp 1 3)] [] (.bind (og := F20 n (iw .u64 ((a0.Hands).length : Int))) ⟨some 47, POp.call false [[]] 20 [46], none, [(46, Hint.imm)]⟩ (fun r6 => [(47, qs r6)]) (fun r6 => []) (by kernel_rfl) (fun r6 hr => pOp_eff (by kernel_rfl) (by kernel_rfl) (eff_call (ARGS := [.one (li .u64 (iw .u64 ((a0.Hands).length : Int)))]) (by kernel_rfl) (args_clean (by kernel_rfl) args_nil) (F20_ok n (iw .u64 ((a0.Hands).length : Int)) r6 hr) (by kernel_rfl))) (fun r6 => ?_)))))))
    refine SimI.guard (c := (((r4 ++ r5) ++ r2.1) ++ r3.1).size + r6.size ≤ 9223372036854775807) ⟨some 48, POp.prim (Prim.bin BinOp.add 9 false false) [42, 47], none, [(42, Hint.imm), (47, Hint.imm)]⟩ [(48, qs ((((r4 ++ r5) ++ r2.1) ++ r3.1) ++ r6))] [] (by kernel_rfl) (fun hc => pOp_eff (by kernel_rfl) (by kernel_rfl) (eff_prim (by kernel_rfl) (pr_addS _ _ _ (((r4 ++ r5) ++ r2.1) ++ r3.1) r6 hc))) (.bind (og := bldAdd ([] : List Int) ((((r4 ++ r5) ++ r2.1) ++ r3.1) ++ r6)) ⟨some 49, POp.gcall false false [8, 300000, 300001, 300002, 300003, 300004, 300005, 300006, 300007, 400064] [[(1, 1)], []] 19 [8, 48], none, [(8, Hint.at_ 8 0), (48, Hint.imm)]⟩ (fun l7 => [(49, .tup [qj (((((r4 ++ r5) ++ r2.1) ++ r3.1) ++ r6).size : Int), .one (.val (.nilIface))])]) (fun l7 => [(8, some (.tcells 64 [.ptr 8 0, .osl 400064 (0 + 1) 0 (l7).length])), (400064, some (.arr 5 (codI .u8).sz (0 + 1) (l7).length (getOf (codI .u8) l7)))]) (by kernel_rfl) (fun l7 hr => pOp_eff (by kernel_rfl) (by kernel_rfl) (eff_gcall (ks := [8, 400064]) (rks := []) (new := []) (ARGS := [qp 8 0, qs ((((r4 ++ r5) ++ r2.1) ++ r3.1) ++ r6)]) (args1 := [qp 8 0, qs ((((r4 ++ r5) ++ r2.1) ++ r3.1) ++ r6)]) (args2 := [qp 1000000 0, qs ((((r4 ++ r5) ++ r2.1) ++ r3.1) ++ r6)]) (os := [.tcells 64 [.val (.pointer none), .osl 1000001 0 0 (([] : List Int)).length], .arr 5 (codI .u8).sz 0 (([] : List Int)).length (getOf (codI .u8) ([] : List Int))]) (os' := [.tcells 64 [.ptr 1000000 0, .osl 1000001 1 0 (l7).length], .arr 5 (codI .u8).sz 1 (l7).length (getOf (codI .u8) l7)]) (os1 := [.tcells 64 [.ptr 1000000 0, .osl 1000001 1 0 (l7).length], .arr 5 (codI .u8).sz 1 (l7).length (getOf (codI .u8) l7)]) (res := .tup [qj (((((r4 ++ r5) ++ r2.1) ++ r3.1) ++ r6).size : Int), .one (.val (.nilIface))]) (res1 := .tup [qj (((((r4 ++ r5) ++ r2.1) ++ r3.1) ++ r6).size : Int), .one (.val (.nilIface))]) (r := .tup [qj (((((r4 ++ r5) ++ r2.1) ++ r3.1) ++ r6).size : Int), .one (.val (.nilIface))]) (N := [(8, some (.tcells 64 [.ptr 8 0, .osl 400064 (0 + 1) 0 (l7).length])), (400064, some (.arr 5 (codI .u8).sz (0 + 1) (l7).length (getOf (codI .u8) l7)))]) (by kernel_rfl) (readA_ow (readA_keep (by kernel_rfl) (readA_keep (by kernel_rfl) (readA_nil)))) (by kernel_rfl) (by kernel_rfl) (by kernel_rfl) (by kernel_rfl) (D_add (a := .val (.pointer none)) (by kernel_rfl) (l := ([] : List Int)) (s := (((r4 ++ r5) ++ r2.1) ++ r3.1) ++ r6) l7 hr) (by kernel_rfl) (by kernel_rfl) (by kernel_rfl) rfl (by kernel_rfl) (by kernel_rfl) (by kernel_rfl))) (fun l7 => ?_))
    refine SimI.dn (.thenN (.seq (.sr 4 [(53, qj 0), (52, qj ((a0.Hands).length : Int)), (51, .one (vw Hand.cod a0.Hands)), (50, qp 1 3)] [] (.block (.loop (.pr [1, 8, 51, 52, 53] [1, 8, 10, 400064] [] [(1, qp 1 0), (8, qp 8 0), (51, .one (vw Hand.cod a0.Hands)), (52, qj ((a0.Hands).length : Int)), (53, qj 0)] [(1, some (.cells (w0 a0))), (8, some (.tcells 64 [.ptr 8 0, .osl 400064 0 0 (l7).length])), (400064, some (.arr 5 (codI .u8).sz 0 (l7).length (getOf (codI .u8) l7)))] ?_))))))
    exact F9_l14_ok n a0 (n + 8) 0 l7


-- 37: slices.Equal[[]vedette/api.Thing,vedette/api.Thing]
def F37_e : Bool → PV × List Ob := fun r => (.one (lb r), [])
def F37_l4 (n : Nat) (a0 : (List Thing)) (a1 : (List Thing)) : Nat → Int → Option Bool
  | 0, _ => none
  | m + 1, i3 =>
    if decide (i3 < ((a0).length : Int)) then
      (ix a0 i3).bind fun (x5 : Thing) =>
      (ix a1 i3).bind fun (x6 : Thing) =>
      if !(Thing.eqb x5 x6) then
        some false
      else
        (F37_l4 n a0 a1 m) (IntKind.wrap .i64 (i3 + 1))
    else
      some true
theorem F37_l4_ok (n : Nat) (a0 : (List Thing)) (a1 : (List Thing)) : ∀ (m : Nat) (i3 : Int), SimL Try.prog D (n + 8) m p37c27 [(0, .one (vw Thing.cod a0)), (1, .one (vw Thing.cod a1)), (12, qj ((a0).length : Int)), (13, qj i3)] [] (F37_l4 n a0 a1 m i3) (QB 0 (QT Try.prog D (n + 8) p37c33 (QF false pc37_r 0 F37_e))) := by
  intro m_l4
  induction m_l4 with
  | zero => intro i3; exact SimL.zero'  rfl
  | succ m_l4 ih_l4 =>
    intro i3
    refine SimL.succ ?_
    unfold F37_l4
    refine Sim.seq (.rg [(0, .one (vw Thing.cod a0)), (1, .one (vw Thing.cod a1)), (12, qj ((a0).length : Int)), (13, qj i3)] [] (.rd 1 [(14, qb (decide (i3 < ((a0).length : Int))))] [] (.thenN (.seq (.cond (decide (i3 < ((a0).length : Int))) (by kernel_rfl) ?_ ?_)))))
    · refine Sim.skip (.thenN (.seq (.block (.sr 2 [(5, qj i3), (15, qj i3)] [] (.st 2 [(17, qj i3), (16, .one (vw Thing.cod a0))] [] (.bind (og := ix a0 i3) ⟨some 18, POp.iaddrS 11 (Operand.tmp 16) (Operand.tmp 17), none, [(16, Hint.imm), (17, Hint.imm)]⟩ (fun x5 => [(18, .one (.eptr (Thing.cod.enc x5) 0))]) (fun x5 => []) (by kernel_rfl) (fun x5 hr => pOp_eff (by kernel_rfl) (by kernel_rfl) (eff_idx (c := Thing.cod) (l := a0) (k := .i64) (n := i3) (by kernel_rfl) (by kernel_rfl) (by kernel_rfl) hr)) (fun x5 => ?_)))))))
      refine SimI.rn 3 [(21, qj i3), (20, .one (vw Thing.cod a1)), (19, .agg (Thing.cells x5))] [] (.bind (og := ix a1 i3) ⟨some 22, POp.iaddrS 11 (Operand.tmp 20) (Operand.tmp 21), none, [(20, Hint.imm), (21, Hint.imm)]⟩ (fun x6 => [(22, .one (.eptr (Thing.cod.enc x6) 0))]) (fun x6 => []) (by kernel_rfl) (fun x6 hr => pOp_eff (by kernel_rfl) (by kernel_rfl) (eff_idx (c := Thing.cod) (l := a1) (k := .i64) (n := i3) (by kernel_rfl) (by kernel_rfl) (by kernel_rfl) hr)) (fun x6 => ?_))
      refine SimI.rn 1 [(23, .agg (Thing.cells x6))] [] (.step ⟨some 24, POp.prim (Prim.bin BinOp.neq 55 false false) [19, 23], none, [(19, Hint.imm), (23, Hint.imm)]⟩ [(24, qb (!(Thing.eqb x5 x6)))] [] (by kernel_rfl) (pOp_eff (by kernel_rfl) (by kernel_rfl) (eff_prim (by kernel_rfl) (Thing_eqn x5 x6 _ _))) (.dn (.thenN (.cond (!(Thing.eqb x5 x6)) (by kernel_rfl) ?_ ?_))))
      · exact Sim.sr 1 [(4, qb false)] [] (.ret (.blockR (.thenR (.loopR (.blockR (.thenR .fn))))))
      · refine Sim.skip (.blockN (.thenN (.region0 (.rd 2 [(13, qj (iw .i64 (i3 + 1))), (25, qj (iw .i64 (i3 + 1)))] [] (.loopN (.pr [0, 1, 12, 13] [] [] [(0, .one (vw Thing.cod a0)), (1, .one (vw Thing.cod a1)), (12, qj ((a0).length : Int)), (13, qj (iw .i64 (i3 + 1)))] [] ?_))))))
        exact ih_l4 (iw .i64 (i3 + 1))
    · exact Sim.exit (.thenX (.loopX (.blockX (.thenN (.sr 1 [(4, qb true)] [] (.ret .fn))))))

def F37 (n : Nat) (a0 : (List Thing)) (a1 : (List Thing)) : Option Bool :=
  if ((a0).length : Int) != ((a1).length : Int) then
    some false
  else
    F37_l4 n a0 a1 (n + 8) 0
theorem F37_ok (n : Nat) (a0 : (List Thing)) (a1 : (List Thing)) : ∀ r, F37 n a0 a1 = some r → D 37 [.one (vw Thing.cod a0), .one (vw Thing.cod a1)] [] = some (F37_e r) := by
  refine fn_to (D := D) (n := n + 8) (nt := 26) (rs := pc37_r) (c := p37c36) (L := [(0, .one (vw Thing.cod a0)), (1, .one (vw Thing.cod a1))]) (M := []) (k := 0) rfl rfl rfl rfl rfl rfl rfl ?_
  unfold F37
  refine Sim.sr 1 [(4, qb false)] [] (.seq (.sr 5 [(10, qb (((a0).length : Int) != ((a1).length : Int))), (9, qj ((a1).length : Int)), (8, .one (vw Thing.cod a1)), (7, qj ((a0).length : Int)), (6, .one (vw Thing.cod a0))] [] (.cond (((a0).length : Int) != ((a1).length : Int)) (by kernel_rfl) ?_ ?_)))
  · exact Sim.sr 1 [(4, qb false)] [] (.ret (.thenR .fn))
  · refine Sim.skip (.thenN (.seq (.sr 3 [(13, qj 0), (12, qj ((a0).length : Int)), (11, .one (vw Thing.cod a0))] [] (.block (.loop (.pr [0, 1, 12, 13] [] [] [(0, .one (vw Thing.cod a0)), (1, .one (vw Thing.cod a1)), (12, qj ((a0).length : Int)), (13, qj 0)] [] ?_))))))
    exact F37_l4_ok n a0 a1 (n + 8) 0


-- 38: slices.Equal[[]vedette/api.Hand,vedette/api.Hand]
def F38_e : Bool → PV × List Ob := fun r => (.one (lb r), [])
def F38_l4 (n : Nat) (a0 : (List Hand)) (a1 : (List Hand)) : Nat → Int → Option Bool
  | 0, _ => none
  | m + 1, i3 =>
    if decide (i3 < ((a0).length : Int)) then
      (ix a0 i3).bind fun (x5 : Hand) =>
      (ix a1 i3).bind fun (x6 : Hand) =>
      if !(Hand.eqb x5 x6) then
        some false
      else
        (F38_l4 n a0 a1 m) (IntKind.wrap .i64 (i3 + 1))
    else
      some true
theorem F38_l4_ok (n : Nat) (a0 : (List Hand)) (a1 : (List Hand)) : ∀ (m : Nat) (i3 : Int), SimL Try.prog D (n + 8) m p38c27 [(0, .one (vw Hand.cod a0)), (1, .one (vw Hand.cod a1)), (12, qj ((a0).length : Int)), (13, qj i3)] [] (F38_l4 n a0 a1 m i3) (QB 0 (QT Try.prog D (n + 8) p38c33 (QF false pc38_r 0 F38_e))) := by
  intro m_l4
  induction m_l4 with
  | zero => intro i3; exact SimL.zero'  rfl
  | succ m_l4 ih_l4 =>
    intro i3
    refine SimL.succ ?_
    unfold F38_l4
    refine Sim.seq (.rg [(0, .one (vw Hand.cod a0)), (1, .one (vw Hand.cod a1)), (12, qj ((a0).length : Int)), (13, qj i3)] [] (.rd 1 [(14, qb (decide (i3 < ((a0).length : Int))))] [] (.thenN (.seq (.cond (decide (i3 < ((a0).length : Int))) (by kernel_rfl) ?_ ?_)))))
    · refine Sim.skip (.thenN (.seq (.block (.sr 2 [(5, qj i3), (15, qj i3)] [] (.st 2 [(17, qj i3), (16, .one (vw Hand.cod a0))] [] (.bind (og := ix a0 i3) ⟨some 18, POp.iaddrS 2 (Operand.tmp 16) (Operand.tmp 17), none, [(16, Hint.imm), (17, Hint.imm)]⟩ (fun x5 => [(18, .one (.eptr (Hand.cod.enc x5) 0))]) (fun x5 => []) (by kernel_rfl) (fun x5 hr => pOp_eff (by kernel_rfl) (by kernel_rfl) (eff_idx (c := Hand.cod) (l := a0) (k := .i64) (n := i3) (by kernel_rfl) (by kernel_rfl) (by kernel_rfl) hr)) (fun x5 => ?_)))))))
      refine SimI.rn 3 [(21, qj i3), (20, .one (vw Hand.cod a1)), (19, .agg [lj x5.Cell, lj x5.To])] [] (.bind (og := ix a1 i3) ⟨some 22, POp.iaddrS 2 (Operand.tmp 20) (Operand.tmp 21), none, [(20, Hint.imm), (21, Hint.imm)]⟩ (fun x6 => [(22, .one (.eptr (Hand.cod.enc x6) 0))]) (fun x6 => []) (by kernel_rfl) (fun x6 hr => pOp_eff (by kernel_rfl) (by kernel_rfl) (eff_idx (c := Hand.cod) (l := a1) (k := .i64) (n := i3) (by kernel_rfl) (by kernel_rfl) (by kernel_rfl) hr)) (fun x6 => ?_))
      refine SimI.rn 1 [(23, .agg [lj x6.Cell, lj x6.To])] [] (.step ⟨some 24, POp.prim (Prim.bin BinOp.neq 44 false false) [19, 23], none, [(19, Hint.imm), (23, Hint.imm)]⟩ [(24, qb (!(Hand.eqb x5 x6)))] [] (by kernel_rfl) (pOp_eff (by kernel_rfl) (by kernel_rfl) (eff_prim (by kernel_rfl) (Hand_eqn x5 x6 _ _))) (.dn (.thenN (.cond (!(Hand.eqb x5 x6)) (by kernel_rfl) ?_ ?_))))
      · exact Sim.sr 1 [(4, qb false)] [] (.ret (.blockR (.thenR (.loopR (.blockR (.thenR .fn))))))
      · refine Sim.skip (.blockN (.thenN (.region0 (.rd 2 [(13, qj (iw .i64 (i3 + 1))), (25, qj (iw .i64 (i3 + 1)))] [] (.loopN (.pr [0, 1, 12, 13] [] [] [(0, .one (vw Hand.cod a0)), (1, .one (vw Hand.cod a1)), (12, qj ((a0).length : Int)), (13, qj (iw .i64 (i3 + 1)))] [] ?_))))))
        exact ih_l4 (iw .i64 (i3 + 1))
    · exact Sim.exit (.thenX (.loopX (.blockX (.thenN (.sr 1 [(4, qb true)] [] (.ret .fn))))))

def F38 (n : Nat) (a0 : (List Hand)) (a1 : (List Hand)) : Option Bool :=
  if ((a0).length : Int) != ((a1).length : Int) then
    some false
  else
    F38_l4 n a0 a1 (n + 8) 0
theorem F38_ok (n : Nat) (a0 : (List Hand)) (a1 : (List Hand)) : ∀ r, F38 n a0 a1 = some r → D 38 [.one (vw Hand.cod a0), .one (vw Hand.cod a1)] [] = some (F38_e r) := by
  refine fn_to (D := D) (n := n + 8) (nt := 26) (rs := pc38_r) (c := p38c36) (L := [(0, .one (vw Hand.cod a0)), (1, .one (vw Hand.cod a1))]) (M := []) (k := 0) rfl rfl rfl rfl rfl rfl rfl ?_
  unfold F38
  refine Sim.sr 1 [(4, qb false)] [] (.seq (.sr 5 [(10, qb (((a0).length : Int) != ((a1).length : Int))), (9, qj ((a1).length : Int)), (8, .one (vw Hand.cod a1)), (7, qj ((a0).length : Int)), (6, .one (vw Hand.cod a0))] [] (.cond (((a0).length : Int) != ((a1).length : Int)) (by kernel_rfl) ?_ ?_)))
  · exact Sim.sr 1 [(4, qb false)] [] (.ret (.thenR .fn))
  · refine Sim.skip (.thenN (.seq (.sr 3 [(13, qj 0), (12, qj ((a0).length : Int)), (11, .one (vw Hand.cod a0))] [] (.block (.loop (.pr [0, 1, 12, 13] [] [] [(0, .one (vw Hand.cod a0)), (1, .one (vw Hand.cod a1)), (12, qj ((a0).length : Int)), (13, qj 0)] [] ?_))))))
    exact F38_l4_ok n a0 a1 (n + 8) 0


-- 39: slices.Equal[[]vedette/api.Command,vedette/api.Command]
def F39_e : Bool → PV × List Ob := fun r => (.one (lb r), [])
def F39_l4 (n : Nat) (a0 : (List Command)) (a1 : (List Command)) : Nat → Int → Option Bool
  | 0, _ => none
  | m + 1, i3 =>
    if decide (i3 < ((a0).length : Int)) then
      (ix a0 i3).bind fun (x5 : Command) =>
      (ix a1 i3).bind fun (x6 : Command) =>
      if !(Command.eqb x5 x6) then
        some false
      else
        (F39_l4 n a0 a1 m) (IntKind.wrap .i64 (i3 + 1))
    else
      some true
theorem F39_l4_ok (n : Nat) (a0 : (List Command)) (a1 : (List Command)) : ∀ (m : Nat) (i3 : Int), SimL Try.prog D (n + 8) m p39c27 [(0, .one (vw Command.cod a0)), (1, .one (vw Command.cod a1)), (12, qj ((a0).length : Int)), (13, qj i3)] [] (F39_l4 n a0 a1 m i3) (QB 0 (QT Try.prog D (n + 8) p39c33 (QF false pc39_r 0 F39_e))) := by
  intro m_l4
  induction m_l4 with
  | zero => intro i3; exact SimL.zero'  rfl
  | succ m_l4 ih_l4 =>
    intro i3
    refine SimL.succ ?_
    unfold F39_l4
    refine Sim.seq (.rg [(0, .one (vw Command.cod a0)), (1, .one (vw Command.cod a1)), (12, qj ((a0).length : Int)), (13, qj i3)] [] (.rd 1 [(14, qb (decide (i3 < ((a0).length : Int))))] [] (.thenN (.seq (.cond (decide (i3 < ((a0).length : Int))) (by kernel_rfl) ?_ ?_)))))
    · refine Sim.skip (.thenN (.seq (.block (.sr 2 [(5, qj i3), (15, qj i3)] [] (.st 2 [(17, qj i3), (16, .one (vw Command.cod a0))] [] (.bind (og := ix a0 i3) ⟨some 18, POp.iaddrS 22 (Operand.tmp 16) (Operand.tmp 17), none, [(16, Hint.imm), (17, Hint.imm)]⟩ (fun x5 => [(18, .one (.eptr (Command.cod.enc x5) 0))]) (fun x5 => []) (by kernel_rfl) (fun x5 hr => pOp_eff (by kernel_rfl) (by kernel_rfl) (eff_idx (c := Command.cod) (l := a0) (k := .i64) (n := i3) (by kernel_rfl) (by kernel_rfl) (by kernel_rfl) hr)) (fun x5 => ?_)))))))
      refine SimI.rn 3 [(21, qj i3), (20, .one (vw Command.cod a1)), (19, .agg (Command.cells x5))] [] (.bind (og := ix a1 i3) ⟨some 22, POp.iaddrS 22 (Operand.tmp 20) (Operand.tmp 21), none, [(20, Hint.imm), (21, Hint.imm)]⟩ (fun x6 => [(22, .one (.eptr (Command.cod.enc x6) 0))]) (fun x6 => []) (by kernel_rfl) (fun x6 hr => pOp_eff (by kernel_rfl) (by kernel_rfl) (eff_idx (c := Command.cod) (l := a1) (k := .i64) (n := i3) (by kernel_rfl) (by kernel_rfl) (by kernel_rfl) hr)) (fun x6 => ?_))
      refine SimI.rn 1 [(23, .agg (Command.cells x6))] [] (.step ⟨some 24, POp.prim (Prim.bin BinOp.neq 53 false false) [19, 23], none, [(19, Hint.imm), (23, Hint.imm)]⟩ [(24, qb (!(Command.eqb x5 x6)))] [] (by kernel_rfl) (pOp_eff (by kernel_rfl) (by kernel_rfl) (eff_prim (by kernel_rfl) (Command_eqn x5 x6 _ _))) (.dn (.thenN (.cond (!(Command.eqb x5 x6)) (by kernel_rfl) ?_ ?_))))
      · exact Sim.sr 1 [(4, qb false)] [] (.ret (.blockR (.thenR (.loopR (.blockR (.thenR .fn))))))
      · refine Sim.skip (.blockN (.thenN (.region0 (.rd 2 [(13, qj (iw .i64 (i3 + 1))), (25, qj (iw .i64 (i3 + 1)))] [] (.loopN (.pr [0, 1, 12, 13] [] [] [(0, .one (vw Command.cod a0)), (1, .one (vw Command.cod a1)), (12, qj ((a0).length : Int)), (13, qj (iw .i64 (i3 + 1)))] [] ?_))))))
        exact ih_l4 (iw .i64 (i3 + 1))
    · exact Sim.exit (.thenX (.loopX (.blockX (.thenN (.sr 1 [(4, qb true)] [] (.ret .fn))))))

def F39 (n : Nat) (a0 : (List Command)) (a1 : (List Command)) : Option Bool :=
  if ((a0).length : Int) != ((a1).length : Int) then
    some false
  else
    F39_l4 n a0 a1 (n + 8) 0
theorem F39_ok (n : Nat) (a0 : (List Command)) (a1 : (List Command)) : ∀ r, F39 n a0 a1 = some r → D 39 [.one (vw Command.cod a0), .one (vw Command.cod a1)] [] = some (F39_e r) := by
  refine fn_to (D := D) (n := n + 8) (nt := 26) (rs := pc39_r) (c := p39c36) (L := [(0, .one (vw Command.cod a0)), (1, .one (vw Command.cod a1))]) (M := []) (k := 0) rfl rfl rfl rfl rfl rfl rfl ?_
  unfold F39
  refine Sim.sr 1 [(4, qb false)] [] (.seq (.sr 5 [(10, qb (((a0).length : Int) != ((a1).length : Int))), (9, qj ((a1).length : Int)), (8, .one (vw Command.cod a1)), (7, qj ((a0).length : Int)), (6, .one (vw Command.cod a0))] [] (.cond (((a0).length : Int) != ((a1).length : Int)) (by kernel_rfl) ?_ ?_)))
  · exact Sim.sr 1 [(4, qb false)] [] (.ret (.thenR .fn))
  · refine Sim.skip (.thenN (.seq (.sr 3 [(13, qj 0), (12, qj ((a0).length : Int)), (11, .one (vw Command.cod a0))] [] (.block (.loop (.pr [0, 1, 12, 13] [] [] [(0, .one (vw Command.cod a0)), (1, .one (vw Command.cod a1)), (12, qj ((a0).length : Int)), (13, qj 0)] [] ?_))))))
    exact F39_l4_ok n a0 a1 (n + 8) 0


-- 12: vedette/note.Same
def F12_e : Bool → PV × List Ob := fun r => (.one (lb r), [])
def F12 (n : Nat) (a0 : Note) (a1 : Note) : Option Bool :=
  if a0.From == a1.From then
    if a0.Beat == a1.Beat then
      (F37 n a0.Moved a1.Moved).bind fun (r1 : Bool) =>
      if r1 then
        (F38 n a0.Hands a1.Hands).bind fun (r2 : Bool) =>
        if r2 then
          (F37 n a0.Given a1.Given).bind fun (r3 : Bool) =>
          if r3 then
            (F39 n a0.Watch a1.Watch).bind fun (r4 : Bool) =>
            some r4
          else
            some false
        else
          some false
      else
        some false
    else
      some false
  else
    some false
theorem F12_ok (n : Nat) (a0 : Note) (a1 : Note) : ∀ r, F12 n a0 a1 = some r → D 12 [.agg [li .i64 a0.From, li .i64 a0.Beat, vw Thing.cod a0.Moved, vw Hand.cod a0.Hands, vw Thing.cod a0.Given, vw Command.cod a0.Watch], .agg [li .i64 a1.From, li .i64 a1.Beat, vw Thing.cod a1.Moved, vw Hand.cod a1.Hands, vw Thing.cod a1.Given, vw Command.cod a1.Watch]] [] = some (F12_e r) := by
  refine fn_to (D := D) (n := n + 8) (nt := 45) (rs := pc12_r) (c := p12c5) (L := [(0, .agg (w0 a0)), (1, .agg (w0 a1))]) (M := []) (k := 0) rfl rfl rfl rfl rfl rfl rfl ?_
  unfold F12
  refine Sim.sr 3 [(4, qb false), (3, qp 3 0), (2, qp 2 0)] [(3, some (.cells (w0 a1))), (2, some (.cells (w0 a0)))] (.st 6 [(10, qb (a0.From == a1.From)), (9, qb (a0.From == a1.From)), (8, qj a1.From), (7, qp 3 0), (6, qj a0.From), (5, qp 2 0)] [] (.split 10 (a0.From == a1.From) (by kernel_rfl) ?_ ?_))
  · refine SimI.rn 7 [(17, qb (a0.Beat == a1.Beat)), (16, qb (a0.Beat == a1.Beat)), (15, qb (a0.Beat == a1.Beat)), (14, qj a1.Beat), (13, qp 3 1), (12, qj a0.Beat), (11, qp 2 1)] [] (.split 17 (a0.Beat == a1.Beat) (by kernel_rfl) ?_ ?_)
    · refine SimI.rn 4 [(21, .one (vw Thing.cod a1.Moved)), (20, qp 3 2), (19, .one (vw Thing.cod a0.Moved)), (18, qp 2 2)] [] (.cl 22 true [[(0, 11)], [(0, 11)]] 37 [19, 21] (some (17, true)) (fun r1 => qb r1) [.one (vw Thing.cod a0.Moved), .one (vw Thing.cod a1.Moved)] (F37_ok n a0.Moved a1.Moved) (fun r1 => ?_))
      refine SimI.rn 2 [(24, qb r1), (23, qb r1)] [] (.split 24 r1 (by kernel_rfl) ?_ ?_)
      · refine SimI.rn 4 [(28, .one (vw Hand.cod a1.Hands)), (27, qp 3 3), (26, .one (vw Hand.cod a0.Hands)), (25, qp 2 3)] [] (.cl 29 true [[(0, 2)], [(0, 2)]] 38 [26, 28] (some (24, true)) (fun r2 => qb r2) [.one (vw Hand.cod a0.Hands), .one (vw Hand.cod a1.Hands)] (F38_ok n a0.Hands a1.Hands) (fun r2 => ?_))
        refine SimI.rn 2 [(31, qb r2), (30, qb r2)] [] (.split 31 r2 (by kernel_rfl) ?_ ?_)
        · refine SimI.rn 4 [(35, .one (vw Thing.cod a1.Given)), (34, qp 3 4), (33, .one (vw Thing.cod a0.Given)), (32, qp 2 4)] [] (.cl 36 true [[(0, 11)], [(0, 11)]] 37 [33, 35] (some (31, true)) (fun r3 => qb r3) [.one (vw Thing.cod a0.Given), .one (vw Thing.cod a1.Given)] (F37_ok n a0.Given a1.Given) (fun r3 => ?_))
          refine SimI.rn 2 [(38, qb r3), (37, qb r3)] [] (.split 38 r3 (by kernel_rfl) ?_ ?_)
          · refine SimI.rn 4 [(42, .one (vw Command.cod a1.Watch)), (41, qp 3 5), (40, .one (vw Command.cod a0.Watch)), (39, qp 2 5)] [] (.cl 43 true [[(0, 22)], [(0, 22)]] 39 [40, 42] (some (38, true)) (fun r4 => qb r4) [.one (vw Command.cod a0.Watch), .one (vw Command.cod a1.Watch)] (F39_ok n a0.Watch a1.Watch) (fun r4 => ?_))
            exact SimI.rd 2 [(4, qb r4), (44, qb r4)] [] (.thenN (.ret .fn))
          · exact SimI.rd 7 [(4, qb false), (44, qb false), (43, tz), (42, tz), (41, tz), (40, tz), (39, tz)] [] (.thenN (.ret .fn))
        · exact SimI.rd 14 [(4, qb false), (44, qb false), (43, tz), (42, tz), (41, tz), (40, tz), (39, tz), (38, qb false), (37, qb false), (36, tz), (35, tz), (34, tz), (33, tz), (32, tz)] [] (.thenN (.ret .fn))
      · exact SimI.rd 21 [(4, qb false), (44, qb false), (43, tz), (42, tz), (41, tz), (40, tz), (39, tz), (38, qb false), (37, qb false), (36, tz), (35, tz), (34, tz), (33, tz), (32, tz), (31, qb false), (30, qb false), (29, tz), (28, tz), (27, tz), (26, tz), (25, tz)] [] (.thenN (.ret .fn))
    · exact SimI.rd 28 [(4, qb false), (44, qb false), (43, tz), (42, tz), (41, tz), (40, tz), (39, tz), (38, qb false), (37, qb false), (36, tz), (35, tz), (34, tz), (33, tz), (32, tz), (31, qb false), (30, qb false), (29, tz), (28, tz), (27, tz), (26, tz), (25, tz), (24, qb false), (23, qb false), (22, tz), (21, tz), (20, tz), (19, tz), (18, tz)] [] (.thenN (.ret .fn))
  · exact SimI.rd 35 [(4, qb false), (44, qb false), (43, tz), (42, tz), (41, tz), (40, tz), (39, tz), (38, qb false), (37, qb false), (36, tz), (35, tz), (34, tz), (33, tz), (32, tz), (31, qb false), (30, qb false), (29, tz), (28, tz), (27, tz), (26, tz), (25, tz), (24, qb false), (23, qb false), (22, tz), (21, tz), (20, tz), (19, tz), (18, tz), (17, qb false), (16, qb false), (15, tz), (14, tz), (13, tz), (12, tz), (11, tz)] [] (.thenN (.ret .fn))


-- 40: vedette/vedetteref6.SameAll
def F40_e : Bool → PV × List Ob := fun r => (.one (lb r), [])
def F40_l4 (n : Nat) (a0 : (List Thing)) (a1 : (List Thing)) : Nat → Int → Option Bool
  | 0, _ => none
  | m + 1, i3 =>
    if decide (i3 < ((a0).length : Int)) then
      (ix a0 i3).bind fun (x5 : Thing) =>
      (ix a1 i3).bind fun (x6 : Thing) =>
      if !(Thing.eqb x5 x6) then
        some false
      else
        (F40_l4 n a0 a1 m) (IntKind.wrap .i64 (i3 + 1))
    else
      some true
theorem F40_l4_ok (n : Nat) (a0 : (List Thing)) (a1 : (List Thing)) : ∀ (m : Nat) (i3 : Int), SimL Try.prog D (n + 8) m p40c25 [(0, .one (vw Thing.cod a0)), (1, .one (vw Thing.cod a1)), (5, qj i3)] [] (F40_l4 n a0 a1 m i3) (QB 0 (QT Try.prog D (n + 8) p40c31 (QF false pc40_r 0 F40_e))) := by
  intro m_l4
  induction m_l4 with
  | zero => intro i3; exact SimL.zero'  rfl
  | succ m_l4 ih_l4 =>
    intro i3
    refine SimL.succ ?_
    unfold F40_l4
    refine Sim.seq (.seq (.rg [(0, .one (vw Thing.cod a0)), (1, .one (vw Thing.cod a1)), (5, qj i3)] [] (.rd 4 [(14, qb (decide (i3 < ((a0).length : Int)))), (13, qj ((a0).length : Int)), (12, .one (vw Thing.cod a0)), (11, qj i3)] [] (.thenN (.cond (decide (i3 < ((a0).length : Int))) (by kernel_rfl) ?_ ?_)))))
    · refine Sim.skip (.thenN (.seq (.block (.st 2 [(18, qj i3), (17, .one (vw Thing.cod a0))] [] (.bind (og := ix a0 i3) ⟨some 19, POp.iaddrS 11 (Operand.tmp 17) (Operand.tmp 18), none, [(17, Hint.imm), (18, Hint.imm)]⟩ (fun x5 => [(19, .one (.eptr (Thing.cod.enc x5) 0))]) (fun x5 => []) (by kernel_rfl) (fun x5 hr => pOp_eff (by kernel_rfl) (by kernel_rfl) (eff_idx (c := Thing.cod) (l := a0) (k := .i64) (n := i3) (by kernel_rfl) (by kernel_rfl) (by kernel_rfl) hr)) (fun x5 => ?_))))))
      refine SimI.rn 3 [(22, qj i3), (21, .one (vw Thing.cod a1)), (20, .agg (Thing.cells x5))] [] (.bind (og := ix a1 i3) ⟨some 23, POp.iaddrS 11 (Operand.tmp 21) (Operand.tmp 22), none, [(21, Hint.imm), (22, Hint.imm)]⟩ (fun x6 => [(23, .one (.eptr (Thing.cod.enc x6) 0))]) (fun x6 => []) (by kernel_rfl) (fun x6 hr => pOp_eff (by kernel_rfl) (by kernel_rfl) (eff_idx (c := Thing.cod) (l := a1) (k := .i64) (n := i3) (by kernel_rfl) (by kernel_rfl) (by kernel_rfl) hr)) (fun x6 => ?_))
      refine SimI.rn 1 [(24, .agg (Thing.cells x6))] [] (.step ⟨some 25, POp.prim (Prim.bin BinOp.neq 55 false false) [20, 24], none, [(20, Hint.imm), (24, Hint.imm)]⟩ [(25, qb (!(Thing.eqb x5 x6)))] [] (by kernel_rfl) (pOp_eff (by kernel_rfl) (by kernel_rfl) (eff_prim (by kernel_rfl) (Thing_eqn x5 x6 _ _))) (.dn (.thenN (.cond (!(Thing.eqb x5 x6)) (by kernel_rfl) ?_ ?_))))
      · exact Sim.sr 1 [(4, qb false)] [] (.ret (.blockR (.thenR (.loopR (.blockR (.thenR .fn))))))
      · refine Sim.skip (.blockN (.thenN (.region0 (.rd 3 [(5, qj (iw .i64 (i3 + 1))), (16, qj (iw .i64 (i3 + 1))), (15, qj i3)] [] (.loopN (.pr [0, 1, 5] [] [] [(0, .one (vw Thing.cod a0)), (1, .one (vw Thing.cod a1)), (5, qj (iw .i64 (i3 + 1)))] [] ?_))))))
        exact ih_l4 (iw .i64 (i3 + 1))
    · exact Sim.exit (.thenX (.loopX (.blockX (.thenN (.sr 1 [(4, qb true)] [] (.ret .fn))))))

def F40 (n : Nat) (a0 : (List Thing)) (a1 : (List Thing)) : Option Bool :=
  if ((a0).length : Int) != ((a1).length : Int) then
    some false
  else
    F40_l4 n a0 a1 (n + 8) 0
theorem F40_ok (n : Nat) (a0 : (List Thing)) (a1 : (List Thing)) : ∀ r, F40 n a0 a1 = some r → D 40 [.one (vw Thing.cod a0), .one (vw Thing.cod a1)] [] = some (F40_e r) := by
  refine fn_to (D := D) (n := n + 8) (nt := 26) (rs := pc40_r) (c := p40c34) (L := [(0, .one (vw Thing.cod a0)), (1, .one (vw Thing.cod a1))]) (M := []) (k := 0) rfl rfl rfl rfl rfl rfl rfl ?_
  unfold F40
  refine Sim.sr 1 [(4, qb false)] [] (.seq (.sr 5 [(10, qb (((a0).length : Int) != ((a1).length : Int))), (9, qj ((a1).length : Int)), (8, .one (vw Thing.cod a1)), (7, qj ((a0).length : Int)), (6, .one (vw Thing.cod a0))] [] (.cond (((a0).length : Int) != ((a1).length : Int)) (by kernel_rfl) ?_ ?_)))
  · exact Sim.sr 1 [(4, qb false)] [] (.ret (.thenR .fn))
  · refine Sim.skip (.thenN (.seq (.sr 1 [(5, qj 0)] [] (.block (.loop (.pr [0, 1, 5] [] [] [(0, .one (vw Thing.cod a0)), (1, .one (vw Thing.cod a1)), (5, qj 0)] [] ?_))))))
    exact F40_l4_ok n a0 a1 (n + 8) 0


-- 13: vedette/vedetteref17.Same
def F13_e : Bool → PV × List Ob := fun r => (.one (lb r), [])
def F13_l12 (n : Nat) (a0 : Note) (a1 : Note) : Nat → Int → Option Bool
  | 0, _ => none
  | m + 1, i11 =>
    if decide (i11 < ((a0.Watch).length : Int)) then
      (ix a0.Watch i11).bind fun (x13 : Command) =>
      (ix a1.Watch i11).bind fun (x14 : Command) =>
      if !(Command.eqb x13 x14) then
        some false
      else
        (F13_l12 n a0 a1 m) (IntKind.wrap .i64 (i11 + 1))
    else
      some true
theorem F13_l12_ok (n : Nat) (a0 : Note) (a1 : Note) : ∀ (m : Nat) (i11 : Int), SimL Try.prog D (n + 8) m p13c45 [(2, qp 2 0), (3, qp 3 0), (6, qj i11)] [(2, some (.cells [lj a0.From, lj a0.Beat, vw Thing.cod a0.Moved, vw Hand.cod a0.Hands, vw Thing.cod a0.Given, vw Command.cod a0.Watch])), (3, some (.cells [lj a1.From, lj a1.Beat, vw Thing.cod a1.Moved, vw Hand.cod a1.Hands, vw Thing.cod a1.Given, vw Command.cod a1.Watch]))] (F13_l12 n a0 a1 m i11) (QB 2 (QT Try.prog D (n + 8) p13c51 (QF false pc13_r 0 F13_e))) := by
  intro m_l12
  induction m_l12 with
  | zero => intro i11; exact SimL.zero'  rfl
  | succ m_l12 ih_l12 =>
    intro i11
    refine SimL.succ ?_
    unfold F13_l12
    refine Sim.seq (.seq (.rg [(2, qp 2 0), (3, qp 3 0), (6, qj i11)] [(2, some (.cells (w0 a0))), (3, some (.cells (w0 a1)))] (.rd 5 [(75, qb (decide (i11 < ((a0.Watch).length : Int)))), (74, qj ((a0.Watch).length : Int)), (73, .one (vw Command.cod a0.Watch)), (72, qp 2 5), (71, qj i11)] [] (.thenN (.cond (decide (i11 < ((a0.Watch).length : Int))) (by kernel_rfl) ?_ ?_)))))
    · refine Sim.skip (.thenN (.seq (.block (.st 3 [(80, qj i11), (79, .one (vw Command.cod a0.Watch)), (78, qp 2 5)] [] (.bind (og := ix a0.Watch i11) ⟨some 81, POp.iaddrS 22 (Operand.tmp 79) (Operand.tmp 80), none, [(79, Hint.imm), (80, Hint.imm)]⟩ (fun x13 => [(81, .one (.eptr (Command.cod.enc x13) 0))]) (fun x13 => []) (by kernel_rfl) (fun x13 hr => pOp_eff (by kernel_rfl) (by kernel_rfl) (eff_idx (c := Command.cod) (l := a0.Watch) (k := .i64) (n := i11) (by kernel_rfl) (by kernel_rfl) (by kernel_rfl) hr)) (fun x13 => ?_))))))
      refine SimI.rn 4 [(85, qj i11), (84, .one (vw Command.cod a1.Watch)), (83, qp 3 5), (82, .agg (Command.cells x13))] [] (.bind (og := ix a1.Watch i11) ⟨some 86, POp.iaddrS 22 (Operand.tmp 84) (Operand.tmp 85), none, [(84, Hint.imm), (85, Hint.imm)]⟩ (fun x14 => [(86, .one (.eptr (Command.cod.enc x14) 0))]) (fun x14 => []) (by kernel_rfl) (fun x14 hr => pOp_eff (by kernel_rfl) (by kernel_rfl) (eff_idx (c := Command.cod) (l := a1.Watch) (k := .i64) (n := i11) (by kernel_rfl) (by kernel_rfl) (by kernel_rfl) hr)) (fun x14 => ?_))
      refine SimI.rn 1 [(87, .agg (Command.cells x14))] [] (.step ⟨some 88, POp.prim (Prim.bin BinOp.neq 53 false false) [82, 87], none, [(82, Hint.imm), (87, Hint.imm)]⟩ [(88, qb (!(Command.eqb x13 x14)))] [] (by kernel_rfl) (pOp_eff (by kernel_rfl) (by kernel_rfl) (eff_prim (by kernel_rfl) (Command_eqn x13 x14 _ _))) (.dn (.thenN (.cond (!(Command.eqb x13 x14)) (by kernel_rfl) ?_ ?_))))
      · exact Sim.sr 1 [(4, qb false)] [] (.ret (.blockR (.thenR (.loopR (.blockR (.thenR .fn))))))
      · refine Sim.skip (.blockN (.thenN (.region0 (.rd 3 [(6, qj (iw .i64 (i11 + 1))), (77, qj (iw .i64 (i11 + 1))), (76, qj i11)] [] (.loopN (.pr [2, 3, 6] [2, 3] [] [(2, qp 2 0), (3, qp 3 0), (6, qj (iw .i64 (i11 + 1)))] [(2, some (.cells (w0 a0))), (3, some (.cells (w0 a1)))] ?_))))))
        exact ih_l12 (iw .i64 (i11 + 1))
    · exact Sim.exit (.thenX (.loopX (.blockX (.thenN (.sr 1 [(4, qb true)] [] (.ret .fn))))))

def F13_l6 (n : Nat) (a0 : Note) (a1 : Note) : Nat → Int → Option Bool
  | 0, _ => none
  | m + 1, i5 =>
    if decide (i5 < ((a0.Hands).length : Int)) then
      (ix a0.Hands i5).bind fun (x7 : Hand) =>
      (ix a1.Hands i5).bind fun (x8 : Hand) =>
      if !(Hand.eqb x7 x8) then
        some false
      else
        (F13_l6 n a0 a1 m) (IntKind.wrap .i64 (i5 + 1))
    else
      F13_l12 n a0 a1 (n + 8) 0
theorem F13_l6_ok (n : Nat) (a0 : Note) (a1 : Note) : ∀ (m : Nat) (i5 : Int), SimL Try.prog D (n + 8) m p13c25 [(2, qp 2 0), (3, qp 3 0), (5, qj i5)] [(2, some (.cells [lj a0.From, lj a0.Beat, vw Thing.cod a0.Moved, vw Hand.cod a0.Hands, vw Thing.cod a0.Given, vw Command.cod a0.Watch])), (3, some (.cells [lj a1.From, lj a1.Beat, vw Thing.cod a1.Moved, vw Hand.cod a1.Hands, vw Thing.cod a1.Given, vw Command.cod a1.Watch]))] (F13_l6 n a0 a1 m i5) (QB 0 (QT Try.prog D (n + 8) p13c52 (QF false pc13_r 0 F13_e))) := by
  intro m_l6
  induction m_l6 with
  | zero => intro i5; exact SimL.zero'  rfl
  | succ m_l6 ih_l6 =>
    intro i5
    refine SimL.succ ?_
    unfold F13_l6
    refine Sim.seq (.seq (.rg [(2, qp 2 0), (3, qp 3 0), (5, qj i5)] [(2, some (.cells (w0 a0))), (3, some (.cells (w0 a1)))] (.rd 5 [(57, qb (decide (i5 < ((a0.Hands).length : Int)))), (56, qj ((a0.Hands).length : Int)), (55, .one (vw Hand.cod a0.Hands)), (54, qp 2 3), (53, qj i5)] [] (.thenN (.cond (decide (i5 < ((a0.Hands).length : Int))) (by kernel_rfl) ?_ ?_)))))
    · refine Sim.skip (.thenN (.seq (.block (.st 3 [(62, qj i5), (61, .one (vw Hand.cod a0.Hands)), (60, qp 2 3)] [] (.bind (og := ix a0.Hands i5) ⟨some 63, POp.iaddrS 2 (Operand.tmp 61) (Operand.tmp 62), none, [(61, Hint.imm), (62, Hint.imm)]⟩ (fun x7 => [(63, .one (.eptr (Hand.cod.enc x7) 0))]) (fun x7 => []) (by kernel_rfl) (fun x7 hr => pOp_eff (by kernel_rfl) (by kernel_rfl) (eff_idx (c := Hand.cod) (l := a0.Hands) (k := .i64) (n := i5) (by kernel_rfl) (by kernel_rfl) (by kernel_rfl) hr)) (fun x7 => ?_))))))
      refine SimI.rn 4 [(67, qj i5), (66, .one (vw Hand.cod a1.Hands)), (65, qp 3 3), (64, .agg [lj x7.Cell, lj x7.To])] [] (.bind (og := ix a1.Hands i5) ⟨some 68, POp.iaddrS 2 (Operand.tmp 66) (Operand.tmp 67), none, [(66, Hint.imm), (67, Hint.imm)]⟩ (fun x8 => [(68, .one (.eptr (Hand.cod.enc x8) 0))]) (fun x8 => []) (by kernel_rfl) (fun x8 hr => pOp_eff (by kernel_rfl) (by kernel_rfl) (eff_idx (c := Hand.cod) (l := a1.Hands) (k := .i64) (n := i5) (by kernel_rfl) (by kernel_rfl) (by kernel_rfl) hr)) (fun x8 => ?_))
      refine SimI.rn 1 [(69, .agg [lj x8.Cell, lj x8.To])] [] (.step ⟨some 70, POp.prim (Prim.bin BinOp.neq 44 false false) [64, 69], none, [(64, Hint.imm), (69, Hint.imm)]⟩ [(70, qb (!(Hand.eqb x7 x8)))] [] (by kernel_rfl) (pOp_eff (by kernel_rfl) (by kernel_rfl) (eff_prim (by kernel_rfl) (Hand_eqn x7 x8 _ _))) (.dn (.thenN (.cond (!(Hand.eqb x7 x8)) (by kernel_rfl) ?_ ?_))))
      · exact Sim.sr 1 [(4, qb false)] [] (.ret (.blockR (.thenR (.loopR (.blockR (.thenR .fn))))))
      · refine Sim.skip (.blockN (.thenN (.region0 (.rd 3 [(5, qj (iw .i64 (i5 + 1))), (59, qj (iw .i64 (i5 + 1))), (58, qj i5)] [] (.loopN (.pr [2, 3, 5] [2, 3] [] [(2, qp 2 0), (3, qp 3 0), (5, qj (iw .i64 (i5 + 1)))] [(2, some (.cells (w0 a0))), (3, some (.cells (w0 a1)))] ?_))))))
        exact ih_l6 (iw .i64 (i5 + 1))
    · refine Sim.exit (.thenX (.loopX (.blockX (.thenN (.seq (.sr 1 [(6, qj 0)] [] (.block (.loop (.pr [2, 3, 6] [2, 3] [] [(2, qp 2 0), (3, qp 3 0), (6, qj 0)] [(2, some (.cells (w0 a0))), (3, some (.cells (w0 a1)))] ?_)))))))))
      exact F13_l12_ok n a0 a1 (n + 8) 0

def F13 (n : Nat) (a0 : Note) (a1 : Note) : Option Bool :=
  if a0.From != a1.From then
    some false
  else
    if a0.Beat != a1.Beat then
      some false
    else
      (F40 n a0.Moved a1.Moved).bind fun (r1 : Bool) =>
      if !(r1) then
        some false
      else
        (F40 n a0.Given a1.Given).bind fun (r2 : Bool) =>
        if !(r2) then
          some false
        else
          if ((a0.Hands).length : Int) != ((a1.Hands).length : Int) then
            some false
          else
            if ((a0.Watch).length : Int) != ((a1.Watch).length : Int) then
              some false
            else
              F13_l6 n a0 a1 (n + 8) 0
theorem F13_ok (n : Nat) (a0 : Note) (a1 : Note) : ∀ r, F13 n a0 a1 = some r → D 13 [.agg [li .i64 a0.From, li .i64 a0.Beat, vw Thing.cod a0.Moved, vw Hand.cod a0.Hands, vw Thing.cod a0.Given, vw Command.cod a0.Watch], .agg [li .i64 a1.From, li .i64 a1.Beat, vw Thing.cod a1.Moved, vw Hand.cod a1.Hands, vw Thing.cod a1.Given, vw Command.cod a1.Watch]] [] = some (F13_e r) := by
  refine fn_to (D := D) (n := n + 8) (nt := 89) (rs := pc13_r) (c := p13c55) (L := [(0, .agg (w0 a0)), (1, .agg (w0 a1))]) (M := []) (k := 0) rfl rfl rfl rfl rfl rfl rfl ?_
  unfold F13
  refine Sim.sr 3 [(4, qb false), (3, qp 3 0), (2, qp 2 0)] [(3, some (.cells (w0 a1))), (2, some (.cells (w0 a0)))] (.seq (.st 6 [(12, qb (a0.From != a1.From)), (11, qb (a0.From != a1.From)), (10, qj a1.From), (9, qp 3 0), (8, qj a0.From), (7, qp 2 0)] [] (.split 12 (a0.From != a1.From) (by kernel_rfl) ?_ ?_)))
  · exact SimI.rd 40 [(52, qb true), (51, tz), (50, tz), (49, tz), (48, tz), (47, tz), (46, tz), (45, tz), (44, qb true), (43, qb true), (42, tz), (41, tz), (40, tz), (39, tz), (38, tz), (37, tz), (36, tz), (35, qb true), (34, qb true), (33, tz), (32, tz), (31, tz), (30, tz), (29, tz), (28, tz), (27, qb true), (26, qb true), (25, tz), (24, tz), (23, tz), (22, tz), (21, tz), (20, tz), (19, qb true), (18, qb true), (17, tz), (16, tz), (15, tz), (14, tz), (13, tz)] [] (.thenN (.condT (by kernel_rfl) (.sr 1 [(4, qb false)] [] (.ret (.thenR .fn)))))
  · refine SimI.rn 7 [(19, qb (a0.Beat != a1.Beat)), (18, qb (a0.Beat != a1.Beat)), (17, qb (a0.Beat != a1.Beat)), (16, qj a1.Beat), (15, qp 3 1), (14, qj a0.Beat), (13, qp 2 1)] [] (.split 19 (a0.Beat != a1.Beat) (by kernel_rfl) ?_ ?_)
    · exact SimI.rd 33 [(52, qb true), (51, tz), (50, tz), (49, tz), (48, tz), (47, tz), (46, tz), (45, tz), (44, qb true), (43, qb true), (42, tz), (41, tz), (40, tz), (39, tz), (38, tz), (37, tz), (36, tz), (35, qb true), (34, qb true), (33, tz), (32, tz), (31, tz), (30, tz), (29, tz), (28, tz), (27, qb true), (26, qb true), (25, tz), (24, tz), (23, tz), (22, tz), (21, tz), (20, tz)] [] (.thenN (.condT (by kernel_rfl) (.sr 1 [(4, qb false)] [] (.ret (.thenR .fn)))))
    · refine SimI.rn 4 [(23, .one (vw Thing.cod a1.Moved)), (22, qp 3 2), (21, .one (vw Thing.cod a0.Moved)), (20, qp 2 2)] [] (.cl 24 true [[(0, 11)], [(0, 11)]] 40 [21, 23] (some (19, false)) (fun r1 => qb r1) [.one (vw Thing.cod a0.Moved), .one (vw Thing.cod a1.Moved)] (F40_ok n a0.Moved a1.Moved) (fun r1 => ?_))
      refine SimI.rn 3 [(27, qb (!(r1))), (26, qb (!(r1))), (25, qb (!(r1)))] [] (.split 27 (!(r1)) (by kernel_rfl) ?_ ?_)
      · exact SimI.rd 25 [(52, qb true), (51, tz), (50, tz), (49, tz), (48, tz), (47, tz), (46, tz), (45, tz), (44, qb true), (43, qb true), (42, tz), (41, tz), (40, tz), (39, tz), (38, tz), (37, tz), (36, tz), (35, qb true), (34, qb true), (33, tz), (32, tz), (31, tz), (30, tz), (29, tz), (28, tz)] [] (.thenN (.condT (by kernel_rfl) (.sr 1 [(4, qb false)] [] (.ret (.thenR .fn)))))
      · refine SimI.rn 4 [(31, .one (vw Thing.cod a1.Given)), (30, qp 3 4), (29, .one (vw Thing.cod a0.Given)), (28, qp 2 4)] [] (.cl 32 true [[(0, 11)], [(0, 11)]] 40 [29, 31] (some (27, false)) (fun r2 => qb r2) [.one (vw Thing.cod a0.Given), .one (vw Thing.cod a1.Given)] (F40_ok n a0.Given a1.Given) (fun r2 => ?_))
        refine SimI.rn 3 [(35, qb (!(r2))), (34, qb (!(r2))), (33, qb (!(r2)))] [] (.split 35 (!(r2)) (by kernel_rfl) ?_ ?_)
        · exact SimI.rd 17 [(52, qb true), (51, tz), (50, tz), (49, tz), (48, tz), (47, tz), (46, tz), (45, tz), (44, qb true), (43, qb true), (42, tz), (41, tz), (40, tz), (39, tz), (38, tz), (37, tz), (36, tz)] [] (.thenN (.condT (by kernel_rfl) (.sr 1 [(4, qb false)] [] (.ret (.thenR .fn)))))
        · refine SimI.rn 9 [(44, qb (((a0.Hands).length : Int) != ((a1.Hands).length : Int))), (43, qb (((a0.Hands).length : Int) != ((a1.Hands).length : Int))), (42, qb (((a0.Hands).length : Int) != ((a1.Hands).length : Int))), (41, qj ((a1.Hands).length : Int)), (40, .one (vw Hand.cod a1.Hands)), (39, qp 3 3), (38, qj ((a0.Hands).length : Int)), (37, .one (vw Hand.cod a0.Hands)), (36, qp 2 3)] [] (.split 44 (((a0.Hands).length : Int) != ((a1.Hands).length : Int)) (by kernel_rfl) ?_ ?_)
          · exact SimI.rd 8 [(52, qb true), (51, tz), (50, tz), (49, tz), (48, tz), (47, tz), (46, tz), (45, tz)] [] (.thenN (.condT (by kernel_rfl) (.sr 1 [(4, qb false)] [] (.ret (.thenR .fn)))))
          · refine SimI.rd 8 [(52, qb (((a0.Watch).length : Int) != ((a1.Watch).length : Int))), (51, qb (((a0.Watch).length : Int) != ((a1.Watch).length : Int))), (50, qj ((a1.Watch).length : Int)), (49, .one (vw Command.cod a1.Watch)), (48, qp 3 5), (47, qj ((a0.Watch).length : Int)), (46, .one (vw Command.cod a0.Watch)), (45, qp 2 5)] [] (.thenN (.cond (((a0.Watch).length : Int) != ((a1.Watch).length : Int)) (by kernel_rfl) ?_ ?_))
            · exact Sim.sr 1 [(4, qb false)] [] (.ret (.thenR .fn))
            · refine Sim.skip (.thenN (.seq (.sr 1 [(5, qj 0)] [] (.block (.loop (.pr [2, 3, 5] [2, 3] [] [(2, qp 2 0), (3, qp 3 0), (5, qj 0)] [(2, some (.cells (w0 a0))), (3, some (.cells (w0 a1)))] ?_))))))
              exact F13_l6_ok n a0 a1 (n + 8) 0


-- 7: vedette/vedettelaw17.known
theorem F7_ok (n : Nat) : ∀ r, (some true : Option Bool) = some r → D 7 [] [] = some (.one (lb r), []) := by
  rintro _ ⟨⟩
  exact all_of (N := 60) (by kernel_rfl)


-- 16: vedette/vedettelaw17.fewCmd
def F16_e : Bool → PV × List Ob := fun r => (.one (lb r), [])
def F16 (n : Nat) (a0 : Command) : Option Bool :=
  if decide ((40 : Int) < (a0.F.a0.Text.size : Int)) then
    some false
  else
    if decide ((40 : Int) < (a0.F.a1.Text.size : Int)) then
      some false
    else
      if decide ((40 : Int) < (a0.F.a2.Text.size : Int)) then
        some false
      else
        if decide ((40 : Int) < (a0.F.a3.Text.size : Int)) then
          some false
        else
          some (decide ((a0.Value.Text.size : Int) ≤ 40))
theorem F16_ok (n : Nat) (a0 : Command) : ∀ r, F16 n a0 = some r → D 16 [.agg (Command.cells a0)] [] = some (F16_e r) := by
  refine fn_to (D := D) (n := n + 8) (nt := 20) (rs := pc16_r) (c := p16c26) (L := [(0, .agg (Command.cells a0))]) (M := []) (k := 0) rfl rfl rfl rfl rfl rfl rfl ?_
  unfold F16
  refine Sim.sr 2 [(2, qb false), (1, qp 1 0)] [(1, some (.cells (Command.cells a0)))] (.seq (.sr 1 [(3, qj 0)] [] (.block (.loop (.succ (.seq (.seq (.rg [(1, qp 1 0), (3, qj 0)] [(1, some (.cells (Command.cells a0)))] (.rd 2 [(5, qb true), (4, qj 0)] [] (.thenN (.condT (by kernel_rfl) (.skip (.thenN (.seq (.block (.sr 7 [(14, qb (decide ((40 : Int) < (a0.F.a0.Text.size : Int)))), (13, qj (a0.F.a0.Text.size : Int)), (12, qs a0.F.a0.Text), (11, qp 1 7), (10, qp 1 6), (9, qp 1 6), (8, qj 0)] [] (.cond (decide ((40 : Int) < (a0.F.a0.Text.size : Int))) (by kernel_rfl) ?_ ?_)))))))))))))))))
  · exact Sim.sr 1 [(2, qb false)] [] (.ret (.blockR (.thenR (.loopR (.blockR (.thenR .fn))))))
  · refine Sim.skip (.blockN (.thenN (.region0 (.rd 3 [(3, qj 1), (7, qj 1), (6, qj 0)] [] (.loopN (.succ (.seq (.seq (.rg [(1, qp 1 0), (3, qj 1)] [(1, some (.cells (Command.cells a0)))] (.rd 2 [(5, qb true), (4, qj 1)] [] (.thenN (.condT (by kernel_rfl) (.skip (.thenN (.seq (.block (.sr 7 [(14, qb (decide ((40 : Int) < (a0.F.a1.Text.size : Int)))), (13, qj (a0.F.a1.Text.size : Int)), (12, qs a0.F.a1.Text), (11, qp 1 9), (10, qp 1 8), (9, qp 1 6), (8, qj 1)] [] (.cond (decide ((40 : Int) < (a0.F.a1.Text.size : Int))) (by kernel_rfl) ?_ ?_))))))))))))))))))
    · exact Sim.sr 1 [(2, qb false)] [] (.ret (.blockR (.thenR (.loopR (.blockR (.thenR .fn))))))
    · refine Sim.skip (.blockN (.thenN (.region0 (.rd 3 [(3, qj 2), (7, qj 2), (6, qj 1)] [] (.loopN (.succ (.seq (.seq (.rg [(1, qp 1 0), (3, qj 2)] [(1, some (.cells (Command.cells a0)))] (.rd 2 [(5, qb true), (4, qj 2)] [] (.thenN (.condT (by kernel_rfl) (.skip (.thenN (.seq (.block (.sr 7 [(14, qb (decide ((40 : Int) < (a0.F.a2.Text.size : Int)))), (13, qj (a0.F.a2.Text.size : Int)), (12, qs a0.F.a2.Text), (11, qp 1 11), (10, qp 1 10), (9, qp 1 6), (8, qj 2)] [] (.cond (decide ((40 : Int) < (a0.F.a2.Text.size : Int))) (by kernel_rfl) ?_ ?_))))))))))))))))))
      · exact Sim.sr 1 [(2, qb false)] [] (.ret (.blockR (.thenR (.loopR (.blockR (.thenR .fn))))))
      · refine Sim.skip (.blockN (.thenN (.region0 (.rd 3 [(3, qj 3), (7, qj 3), (6, qj 2)] [] (.loopN (.succ (.seq (.seq (.rg [(1, qp 1 0), (3, qj 3)] [(1, some (.cells (Command.cells a0)))] (.rd 2 [(5, qb true), (4, qj 3)] [] (.thenN (.condT (by kernel_rfl) (.skip (.thenN (.seq (.block (.sr 7 [(14, qb (decide ((40 : Int) < (a0.F.a3.Text.size : Int)))), (13, qj (a0.F.a3.Text.size : Int)), (12, qs a0.F.a3.Text), (11, qp 1 13), (10, qp 1 12), (9, qp 1 6), (8, qj 3)] [] (.cond (decide ((40 : Int) < (a0.F.a3.Text.size : Int))) (by kernel_rfl) ?_ ?_))))))))))))))))))
        · exact Sim.sr 1 [(2, qb false)] [] (.ret (.blockR (.thenR (.loopR (.blockR (.thenR .fn))))))
        · exact Sim.skip (.blockN (.thenN (.region0 (.rd 3 [(3, qj 4), (7, qj 4), (6, qj 3)] [] (.loopN (.succ (.seq (.seq (.rg [(1, qp 1 0), (3, qj 4)] [(1, some (.cells (Command.cells a0)))] (.rd 2 [(5, qb false), (4, qj 4)] [] (.thenN (.condF (by kernel_rfl) (.exit (.thenX (.loopX (.blockX (.thenN (.sr 6 [(2, qb (decide ((a0.Value.Text.size : Int) ≤ 40))), (19, qb (decide ((a0.Value.Text.size : Int) ≤ 40))), (18, qj (a0.Value.Text.size : Int)), (17, qs a0.Value.Text), (16, qp 1 15), (15, qp 1 14)] [] (.ret .fn)))))))))))))))))))


-- 74: vedette/vedettelaw17.fewField
def F74_e : Bool → PV × List Ob := fun r => (.one (lb r), [])
def F74 (n : Nat) (a0 : Field) : Option Bool :=
  some (decide ((a0.Text.size : Int) ≤ 40))
theorem F74_ok (n : Nat) (a0 : Field) : ∀ r, F74 n a0 = some r → D 74 [.agg [li .i64 a0.N, ls a0.Text]] [] = some (F74_e r) := by
  refine fn_to (D := D) (n := n + 8) (nt := 7) (rs := pc74_r) (c := p74c5) (L := [(0, .agg [lj a0.N, ls a0.Text])]) (M := []) (k := 0) rfl rfl rfl rfl rfl rfl rfl ?_
  unfold F74
  exact Sim.sr 2 [(2, qb false), (1, qp 1 0)] [(1, some (.cells [lj a0.N, ls a0.Text]))] (.sr 5 [(2, qb (decide ((a0.Text.size : Int) ≤ 40))), (6, qb (decide ((a0.Text.size : Int) ≤ 40))), (5, qj (a0.Text.size : Int)), (4, qs a0.Text), (3, qp 1 1)] [] (.ret .fn))


-- 43: vedette/vedettelaw17.fewThing
def F43_e : Bool → PV × List Ob := fun r => (.one (lb r), [])
def F43 (n : Nat) (a0 : Thing) : Option Bool :=
  (F74 n a0.F.a0).bind fun (r1 : Bool) =>
  if !(r1) then
    some false
  else
    (F74 n a0.F.a1).bind fun (r2 : Bool) =>
    if !(r2) then
      some false
    else
      (F74 n a0.F.a2).bind fun (r3 : Bool) =>
      if !(r3) then
        some false
      else
        (F74 n a0.F.a3).bind fun (r4 : Bool) =>
        if !(r4) then
          some false
        else
          some true
theorem F43_ok (n : Nat) (a0 : Thing) : ∀ r, F43 n a0 = some r → D 43 [.agg (Thing.cells a0)] [] = some (F43_e r) := by
  refine fn_to (D := D) (n := n + 8) (nt := 14) (rs := pc43_r) (c := p43c26) (L := [(0, .agg (Thing.cells a0))]) (M := []) (k := 0) rfl rfl rfl rfl rfl rfl rfl ?_
  unfold F43
  refine Sim.sr 2 [(2, qb false), (1, qp 1 0)] [(1, some (.cells (Thing.cells a0)))] (.seq (.sr 1 [(3, qj 0)] [] (.block (.loop (.succ (.seq (.seq (.rg [(1, qp 1 0), (3, qj 0)] [(1, some (.cells (Thing.cells a0)))] (.rd 2 [(5, qb true), (4, qj 0)] [] (.thenN (.condT (by kernel_rfl) (.skip (.thenN (.seq (.block (.st 4 [(11, .agg [lj a0.F.a0.N, ls a0.F.a0.Text]), (10, qp 1 3), (9, qp 1 3), (8, qj 0)] [] (.cl 12 true [[]] 74 [11] none (fun r1 => qb r1) [.agg [lj a0.F.a0.N, ls a0.F.a0.Text]] (F74_ok n a0.F.a0) (fun r1 => ?_))))))))))))))))))
  refine SimI.rd 1 [(13, qb (!(r1)))] [] (.thenN (.cond (!(r1)) (by kernel_rfl) ?_ ?_))
  · exact Sim.sr 1 [(2, qb false)] [] (.ret (.blockR (.thenR (.loopR (.blockR (.thenR .fn))))))
  · refine Sim.skip (.blockN (.thenN (.region0 (.rd 3 [(3, qj 1), (7, qj 1), (6, qj 0)] [] (.loopN (.succ (.seq (.seq (.rg [(1, qp 1 0), (3, qj 1)] [(1, some (.cells (Thing.cells a0)))] (.rd 2 [(5, qb true), (4, qj 1)] [] (.thenN (.condT (by kernel_rfl) (.skip (.thenN (.seq (.block (.st 4 [(11, .agg [lj a0.F.a1.N, ls a0.F.a1.Text]), (10, qp 1 5), (9, qp 1 3), (8, qj 1)] [] (.cl 12 true [[]] 74 [11] none (fun r2 => qb r2) [.agg [lj a0.F.a1.N, ls a0.F.a1.Text]] (F74_ok n a0.F.a1) (fun r2 => ?_)))))))))))))))))))
    refine SimI.rd 1 [(13, qb (!(r2)))] [] (.thenN (.cond (!(r2)) (by kernel_rfl) ?_ ?_))
    · exact Sim.sr 1 [(2, qb false)] [] (.ret (.blockR (.thenR (.loopR (.blockR (.thenR .fn))))))
    · refine Sim.skip (.blockN (.thenN (.region0 (.rd 3 [(3, qj 2), (7, qj 2), (6, qj 1)] [] (.loopN (.succ (.seq (.seq (.rg [(1, qp 1 0), (3, qj 2)] [(1, some (.cells (Thing.cells a0)))] (.rd 2 [(5, qb true), (4, qj 2)] [] (.thenN (.condT (by kernel_rfl) (.skip (.thenN (.seq (.block (.st 4 [(11, .agg [lj a0.F.a2.N, ls a0.F.a2.Text]), (10, qp 1 7), (9, qp 1 3), (8, qj 2)] [] (.cl 12 true [[]] 74 [11] none (fun r3 => qb r3) [.agg [lj a0.F.a2.N, ls a0.F.a2.Text]] (F74_ok n a0.F.a2) (fun r3 => ?_)))))))))))))))))))
      refine SimI.rd 1 [(13, qb (!(r3)))] [] (.thenN (.cond (!(r3)) (by kernel_rfl) ?_ ?_))
      · exact Sim.sr 1 [(2, qb false)] [] (.ret (.blockR (.thenR (.loopR (.blockR (.thenR .fn))))))
      · refine Sim.skip (.blockN (.thenN (.region0 (.rd 3 [(3, qj 3), (7, qj 3), (6, qj 2)] [] (.loopN (.succ (.seq (.seq (.rg [(1, qp 1 0), (3, qj 3)] [(1, some (.cells (Thing.cells a0)))] (.rd 2 [(5, qb true), (4, qj 3)] [] (.thenN (.condT (by kernel_rfl) (.skip (.thenN (.seq (.block (.st 4 [(11, .agg [lj a0.F.a3.N, ls a0.F.a3.Text]), (10, qp 1 9), (9, qp 1 3), (8, qj 3)] [] (.cl 12 true [[]] 74 [11] none (fun r4 => qb r4) [.agg [lj a0.F.a3.N, ls a0.F.a3.Text]] (F74_ok n a0.F.a3) (fun r4 => ?_)))))))))))))))))))
        refine SimI.rd 1 [(13, qb (!(r4)))] [] (.thenN (.cond (!(r4)) (by kernel_rfl) ?_ ?_))
        · exact Sim.sr 1 [(2, qb false)] [] (.ret (.blockR (.thenR (.loopR (.blockR (.thenR .fn))))))
        · exact Sim.skip (.blockN (.thenN (.region0 (.rd 3 [(3, qj 4), (7, qj 4), (6, qj 3)] [] (.loopN (.succ (.seq (.seq (.rg [(1, qp 1 0), (3, qj 4)] [(1, some (.cells (Thing.cells a0)))] (.rd 2 [(5, qb false), (4, qj 4)] [] (.thenN (.condF (by kernel_rfl) (.exit (.thenX (.loopX (.blockX (.thenN (.sr 1 [(2, qb true)] [] (.ret .fn)))))))))))))))))))


-- 17: vedette/vedettelaw17.fewThings
def F17_e : Bool → PV × List Ob := fun r => (.one (lb r), [])
def F17_l4 (n : Nat) (a0 : (List Thing)) : Nat → Int → Option Bool
  | 0, _ => none
  | m + 1, i3 =>
    if decide (i3 < ((a0).length : Int)) then
      (ix a0 i3).bind fun (x5 : Thing) =>
      (F43 n x5).bind fun (r6 : Bool) =>
      if !(r6) then
        some false
      else
        (F17_l4 n a0 m) (IntKind.wrap .i64 (i3 + 1))
    else
      some (decide (((a0).length : Int) ≤ 30))
theorem F17_l4_ok (n : Nat) (a0 : (List Thing)) : ∀ (m : Nat) (i3 : Int), SimL Try.prog D (n + 8) m p17c18 [(0, .one (vw Thing.cod a0)), (3, qj i3)] [] (F17_l4 n a0 m i3) (QB 0 (QT Try.prog D (n + 8) p17c24 (QF false pc17_r 0 F17_e))) := by
  intro m_l4
  induction m_l4 with
  | zero => intro i3; exact SimL.zero'  rfl
  | succ m_l4 ih_l4 =>
    intro i3
    refine SimL.succ ?_
    unfold F17_l4
    refine Sim.seq (.seq (.rg [(0, .one (vw Thing.cod a0)), (3, qj i3)] [] (.rd 4 [(7, qb (decide (i3 < ((a0).length : Int)))), (6, qj ((a0).length : Int)), (5, .one (vw Thing.cod a0)), (4, qj i3)] [] (.thenN (.cond (decide (i3 < ((a0).length : Int))) (by kernel_rfl) ?_ ?_)))))
    · refine Sim.skip (.thenN (.seq (.block (.st 2 [(11, qj i3), (10, .one (vw Thing.cod a0))] [] (.bind (og := ix a0 i3) ⟨some 12, POp.iaddrS 11 (Operand.tmp 10) (Operand.tmp 11), none, []⟩ (fun x5 => [(12, .one (.eptr (Thing.cod.enc x5) 0))]) (fun x5 => []) (by kernel_rfl) (fun x5 hr => pOp_eff (by kernel_rfl) (by kernel_rfl) (eff_idx (c := Thing.cod) (l := a0) (k := .i64) (n := i3) (by kernel_rfl) (by kernel_rfl) (by kernel_rfl) hr)) (fun x5 => ?_))))))
      refine SimI.rn 1 [(13, .agg (Thing.cells x5))] [] (.cl 14 true [[]] 43 [13] none (fun r6 => qb r6) [.agg (Thing.cells x5)] (F43_ok n x5) (fun r6 => ?_))
      refine SimI.rd 1 [(15, qb (!(r6)))] [] (.thenN (.cond (!(r6)) (by kernel_rfl) ?_ ?_))
      · exact Sim.sr 1 [(2, qb false)] [] (.ret (.blockR (.thenR (.loopR (.blockR (.thenR .fn))))))
      · refine Sim.skip (.blockN (.thenN (.region0 (.rd 3 [(3, qj (iw .i64 (i3 + 1))), (9, qj (iw .i64 (i3 + 1))), (8, qj i3)] [] (.loopN (.pr [0, 3] [] [] [(0, .one (vw Thing.cod a0)), (3, qj (iw .i64 (i3 + 1)))] [] ?_))))))
        exact ih_l4 (iw .i64 (i3 + 1))
    · exact Sim.exit (.thenX (.loopX (.blockX (.thenN (.sr 4 [(2, qb (decide (((a0).length : Int) ≤ 30))), (18, qb (decide (((a0).length : Int) ≤ 30))), (17, qj ((a0).length : Int)), (16, .one (vw Thing.cod a0))] [] (.ret .fn))))))

def F17 (n : Nat) (a0 : (List Thing)) : Option Bool :=
  F17_l4 n a0 (n + 8) 0
theorem F17_ok (n : Nat) (a0 : (List Thing)) : ∀ r, F17 n a0 = some r → D 17 [.one (vw Thing.cod a0)] [] = some (F17_e r) := by
  refine fn_to (D := D) (n := n + 8) (nt := 19) (rs := pc17_r) (c := p17c26) (L := [(0, .one (vw Thing.cod a0))]) (M := []) (k := 0) rfl rfl rfl rfl rfl rfl rfl ?_
  unfold F17
  refine Sim.sr 1 [(2, qb false)] [] (.seq (.sr 1 [(3, qj 0)] [] (.block (.loop (.pr [0, 3] [] [] [(0, .one (vw Thing.cod a0)), (3, qj 0)] [] ?_)))))
  exact F17_l4_ok n a0 (n + 8) 0


-- 8: vedette/vedettelaw17.fewNote
def F8_e : Bool → PV × List Ob := fun r => (.one (lb r), [])
def F8_l4 (n : Nat) (a0 : Note) : Nat → Int → Option Bool
  | 0, _ => none
  | m + 1, i3 =>
    if decide (i3 < ((a0.Watch).length : Int)) then
      (ix a0.Watch i3).bind fun (x5 : Command) =>
      (F16 n x5).bind fun (r6 : Bool) =>
      if !(r6) then
        some false
      else
        (F8_l4 n a0 m) (IntKind.wrap .i64 (i3 + 1))
    else
      (F17 n a0.Moved).bind fun (r7 : Bool) =>
      if r7 then
        (F17 n a0.Given).bind fun (r8 : Bool) =>
        if r8 then
          if decide (((a0.Hands).length : Int) ≤ 20) then
            some (decide (((a0.Watch).length : Int) ≤ 24))
          else
            some false
        else
          some false
      else
        some false
theorem F8_l4_ok (n : Nat) (a0 : Note) : ∀ (m : Nat) (i3 : Int), SimL Try.prog D (n + 8) m p8c18 [(1, qp 1 0), (3, qj i3)] [(1, some (.cells [lj a0.From, lj a0.Beat, vw Thing.cod a0.Moved, vw Hand.cod a0.Hands, vw Thing.cod a0.Given, vw Command.cod a0.Watch]))] (F8_l4 n a0 m i3) (QB 0 (QT Try.prog D (n + 8) p8c24 (QF false pc8_r 0 F8_e))) := by
  intro m_l4
  induction m_l4 with
  | zero => intro i3; exact SimL.zero'  rfl
  | succ m_l4 ih_l4 =>
    intro i3
    refine SimL.succ ?_
    unfold F8_l4
    refine Sim.seq (.seq (.rg [(1, qp 1 0), (3, qj i3)] [(1, some (.cells (w0 a0)))] (.rd 5 [(8, qb (decide (i3 < ((a0.Watch).length : Int)))), (7, qj ((a0.Watch).length : Int)), (6, .one (vw Command.cod a0.Watch)), (5, qp 1 5), (4, qj i3)] [] (.thenN (.cond (decide (i3 < ((a0.Watch).length : Int))) (by kernel_rfl) ?_ ?_)))))
    · refine Sim.skip (.thenN (.seq (.block (.st 3 [(13, qj i3), (12, .one (vw Command.cod a0.Watch)), (11, qp 1 5)] [] (.bind (og := ix a0.Watch i3) ⟨some 14, POp.iaddrS 22 (Operand.tmp 12) (Operand.tmp 13), none, []⟩ (fun x5 => [(14, .one (.eptr (Command.cod.enc x5) 0))]) (fun x5 => []) (by kernel_rfl) (fun x5 hr => pOp_eff (by kernel_rfl) (by kernel_rfl) (eff_idx (c := Command.cod) (l := a0.Watch) (k := .i64) (n := i3) (by kernel_rfl) (by kernel_rfl) (by kernel_rfl) hr)) (fun x5 => ?_))))))
      refine SimI.rn 1 [(15, .agg (Command.cells x5))] [] (.cl 16 true [[]] 16 [15] none (fun r6 => qb r6) [.agg (Command.cells x5)] (F16_ok n x5) (fun r6 => ?_))
      refine SimI.rd 1 [(17, qb (!(r6)))] [] (.thenN (.cond (!(r6)) (by kernel_rfl) ?_ ?_))
      · exact Sim.sr 1 [(2, qb false)] [] (.ret (.blockR (.thenR (.loopR (.blockR (.thenR .fn))))))
      · refine Sim.skip (.blockN (.thenN (.region0 (.rd 3 [(3, qj (iw .i64 (i3 + 1))), (10, qj (iw .i64 (i3 + 1))), (9, qj i3)] [] (.loopN (.pr [1, 3] [1] [] [(1, qp 1 0), (3, qj (iw .i64 (i3 + 1)))] [(1, some (.cells (w0 a0)))] ?_))))))
        exact ih_l4 (iw .i64 (i3 + 1))
    · refine Sim.exit (.thenX (.loopX (.blockX (.thenN (.st 2 [(19, .one (vw Thing.cod a0.Moved)), (18, qp 1 2)] [] (.cl 20 true [[(0, 11)]] 17 [19] none (fun r7 => qb r7) [.one (vw Thing.cod a0.Moved)] (F17_ok n a0.Moved) (fun r7 => ?_)))))))
      refine SimI.rn 1 [(21, qb r7)] [] (.split 21 r7 (by kernel_rfl) ?_ ?_)
      · refine SimI.rn 2 [(23, .one (vw Thing.cod a0.Given)), (22, qp 1 4)] [] (.cl 24 true [[(0, 11)]] 17 [23] (some (21, true)) (fun r8 => qb r8) [.one (vw Thing.cod a0.Given)] (F17_ok n a0.Given) (fun r8 => ?_))
        refine SimI.rn 2 [(26, qb r8), (25, qb r8)] [] (.split 26 r8 (by kernel_rfl) ?_ ?_)
        · refine SimI.rn 6 [(32, qb (decide (((a0.Hands).length : Int) ≤ 20))), (31, qb (decide (((a0.Hands).length : Int) ≤ 20))), (30, qb (decide (((a0.Hands).length : Int) ≤ 20))), (29, qj ((a0.Hands).length : Int)), (28, .one (vw Hand.cod a0.Hands)), (27, qp 1 3)] [] (.split 32 (decide (((a0.Hands).length : Int) ≤ 20)) (by kernel_rfl) ?_ ?_)
          · exact SimI.rd 6 [(2, qb (decide (((a0.Watch).length : Int) ≤ 24))), (37, qb (decide (((a0.Watch).length : Int) ≤ 24))), (36, qb (decide (((a0.Watch).length : Int) ≤ 24))), (35, qj ((a0.Watch).length : Int)), (34, .one (vw Command.cod a0.Watch)), (33, qp 1 5)] [] (.thenN (.ret .fn))
          · exact SimI.rd 6 [(2, qb false), (37, qb false), (36, tz), (35, tz), (34, tz), (33, tz)] [] (.thenN (.ret .fn))
        · exact SimI.rd 12 [(2, qb false), (37, qb false), (36, tz), (35, tz), (34, tz), (33, tz), (32, qb false), (31, qb false), (30, tz), (29, tz), (28, tz), (27, tz)] [] (.thenN (.ret .fn))
      · exact SimI.rd 17 [(2, qb false), (37, qb false), (36, tz), (35, tz), (34, tz), (33, tz), (32, qb false), (31, qb false), (30, tz), (29, tz), (28, tz), (27, tz), (26, qb false), (25, qb false), (24, tz), (23, tz), (22, tz)] [] (.thenN (.ret .fn))

def F8 (n : Nat) (a0 : Note) : Option Bool :=
  F8_l4 n a0 (n + 8) 0
theorem F8_ok (n : Nat) (a0 : Note) : ∀ r, F8 n a0 = some r → D 8 [.agg [li .i64 a0.From, li .i64 a0.Beat, vw Thing.cod a0.Moved, vw Hand.cod a0.Hands, vw Thing.cod a0.Given, vw Command.cod a0.Watch]] [] = some (F8_e r) := by
  refine fn_to (D := D) (n := n + 8) (nt := 38) (rs := pc8_r) (c := p8c26) (L := [(0, .agg (w0 a0))]) (M := []) (k := 0) rfl rfl rfl rfl rfl rfl rfl ?_
  unfold F8
  refine Sim.sr 2 [(2, qb false), (1, qp 1 0)] [(1, some (.cells (w0 a0)))] (.seq (.sr 1 [(3, qj 0)] [] (.block (.loop (.pr [1, 3] [1] [] [(1, qp 1 0), (3, qj 0)] [(1, some (.cells (w0 a0)))] ?_)))))
  exact F8_l4_ok n a0 (n + 8) 0


-- 57: vedette/vedetteref6.IsField
def F57_e : Bool → PV × List Ob := fun r => (.one (lb r), [])
def F57 (n : Nat) (a0 : Field) : Option Bool :=
  if a0.N == 0 then
    some (decide ((a0.Text.size : Int) ≤ 12))
  else
    if a0.Text.toList == ByteArray.empty.toList then
      some (decide ((a0.Text.size : Int) ≤ 12))
    else
      some false
theorem F57_ok (n : Nat) (a0 : Field) : ∀ r, F57 n a0 = some r → D 57 [.agg [li .i64 a0.N, ls a0.Text]] [] = some (F57_e r) := by
  refine fn_to (D := D) (n := n + 8) (nt := 17) (rs := pc57_r) (c := p57c5) (L := [(0, .agg [lj a0.N, ls a0.Text])]) (M := []) (k := 0) rfl rfl rfl rfl rfl rfl rfl ?_
  unfold F57
  refine Sim.sr 2 [(2, qb false), (1, qp 1 0)] [(1, some (.cells [lj a0.N, ls a0.Text]))] (.st 4 [(6, qb (a0.N == 0)), (5, qb (a0.N == 0)), (4, qj a0.N), (3, qp 1 0)] [] (.split 6 (a0.N == 0) (by kernel_rfl) ?_ ?_))
  · exact SimI.rd 11 [(2, qb (decide ((a0.Text.size : Int) ≤ 12))), (16, qb (decide ((a0.Text.size : Int) ≤ 12))), (15, qb (decide ((a0.Text.size : Int) ≤ 12))), (14, qj (a0.Text.size : Int)), (13, qs a0.Text), (12, qp 1 1), (11, qb true), (10, qb true), (9, tz), (8, tz), (7, tz)] [] (.thenN (.ret .fn))
  · refine SimI.rn 5 (w12 a0) [] (.split 11 (a0.Text.toList == be.toList) (by kernel_rfl) ?_ ?_)
    · exact SimI.rd 6 (w13 a0) [] (.thenN (.ret .fn))
    · exact SimI.rd 6 [(2, qb false), (16, qb false), (15, tz), (14, tz), (13, tz), (12, tz)] [] (.thenN (.ret .fn))


-- 58: vedette/vedetteref3.On
def F58_e : Bool → PV × List Ob := fun r => (.one (lb r), [])
def F58 (n : Nat) (a0 : Point) : Option Bool :=
  if decide ((0 : Int) ≤ a0.X) then
    if decide (a0.X < 64) then
      if decide ((0 : Int) ≤ a0.Y) then
        some (decide (a0.Y < 64))
      else
        some false
    else
      some false
  else
    some false
theorem F58_ok (n : Nat) (a0 : Point) : ∀ r, F58 n a0 = some r → D 58 [.agg [li .i64 a0.X, li .i64 a0.Y]] [] = some (F58_e r) := by
  refine fn_to (D := D) (n := n + 8) (nt := 21) (rs := pc58_r) (c := p58c5) (L := [(0, .agg [lj a0.X, lj a0.Y])]) (M := []) (k := 0) rfl rfl rfl rfl rfl rfl rfl ?_
  unfold F58
  refine Sim.sr 2 [(2, qb false), (1, qp 1 0)] [(1, some (.cells [lj a0.X, lj a0.Y]))] (.st 4 (w18 a0) [] (.split 6 (decide ((0 : Int) ≤ a0.X)) (by kernel_rfl) ?_ ?_))
  · refine SimI.rn 5 (w19 a0) [] (.split 11 (decide (a0.X < 64)) (by kernel_rfl) ?_ ?_)
    · refine SimI.rn 5 (w20 a0) [] (.split 16 (decide ((0 : Int) ≤ a0.Y)) (by kernel_rfl) ?_ ?_)
      · exact SimI.rd 5 (w21 a0) [] (.thenN (.ret .fn))
      · exact SimI.rd 5 [(2, qb false), (20, qb false), (19, tz), (18, tz), (17, tz)] [] (.thenN (.ret .fn))
    · exact SimI.rd 10 [(2, qb false), (20, qb false), (19, tz), (18, tz), (17, tz), (16, qb false), (15, qb false), (14, tz), (13, tz), (12, tz)] [] (.thenN (.ret .fn))
  · exact SimI.rd 15 [(2, qb false), (20, qb false), (19, tz), (18, tz), (17, tz), (16, qb false), (15, qb false), (14, tz), (13, tz), (12, tz), (11, qb false), (10, qb false), (9, tz), (8, tz), (7, tz)] [] (.thenN (.ret .fn))


-- 52: vedette/vedetteref6.Is
def F52_e : Bool → PV × List Ob := fun r => (.one (lb r), [])
def F52_u15 (n : Nat) (b14 : Bool) : Option Bool :=
    some b14
theorem F52_u15_ok (n : Nat) (a0 : Thing) (b14 : Bool) : SimL Try.prog D (n + 8) (n + 4) p52c13 [(1, qp 1 0), (3, qb b14), (4, qj 4)] [(1, some (.cells (Thing.cells a0)))] (F52_u15 n b14) (QB 0 (QT Try.prog D (n + 8) p52c19 (QF false pc52_r 0 F52_e))) := by
    unfold F52_u15
    exact SimL.succ (.seq (.seq (.rg [(1, qp 1 0), (3, qb b14), (4, qj 4)] [(1, some (.cells (Thing.cells a0)))] (.rd 2 [(19, qb false), (18, qj 4)] [] (.thenN (.condF (by kernel_rfl) (.exit (.thenX (.loopX (.blockX (.thenN (.sr 2 [(2, qb b14), (30, qb b14)] [] (.ret .fn)))))))))))))

def F52_u12 (n : Nat) (a0 : Thing) (b11 : Bool) : Option Bool :=
    if b11 then
      (F57 n a0.F.a3).bind fun (r13 : Bool) =>
      F52_u15 n r13
    else
      F52_u15 n false
theorem F52_u12_ok (n : Nat) (a0 : Thing) (b11 : Bool) : SimL Try.prog D (n + 8) (n + 5) p52c13 [(1, qp 1 0), (3, qb b11), (4, qj 3)] [(1, some (.cells (Thing.cells a0)))] (F52_u12 n a0 b11) (QB 0 (QT Try.prog D (n + 8) p52c19 (QF false pc52_r 0 F52_e))) := by
    unfold F52_u12
    refine SimL.succ (.seq (.seq (.rg [(1, qp 1 0), (3, qb b11), (4, qj 3)] [(1, some (.cells (Thing.cells a0)))] (.rd 2 [(19, qb true), (18, qj 3)] [] (.thenN (.condT (by kernel_rfl) (.skip (.thenN (.seq (.block (.region0 (.rn 2 [(23, qb b11), (22, qb b11)] [] (.split 23 b11 (by kernel_rfl) ?_ ?_)))))))))))))
    · refine SimI.rn 4 [(27, .agg [lj a0.F.a3.N, ls a0.F.a3.Text]), (26, qp 1 9), (25, qp 1 3), (24, qj 3)] [] (.cl 28 true [[]] 57 [27] (some (23, true)) (fun r13 => qb r13) [.agg [lj a0.F.a3.N, ls a0.F.a3.Text]] (F57_ok n a0.F.a3) (fun r13 => ?_))
      refine SimI.rd 2 [(3, qb r13), (29, qb r13)] [] (.blockN (.thenN (.region0 (.rd 3 [(4, qj 4), (21, qj 4), (20, qj 3)] [] (.loopN (.pr [1, 3, 4] [1] [] [(1, qp 1 0), (3, qb r13), (4, qj 4)] [(1, some (.cells (Thing.cells a0)))] ?_))))))
      exact F52_u15_ok n a0 r13
    · refine SimI.rd 7 [(3, qb false), (29, qb false), (28, tz), (27, tz), (26, tz), (25, tz), (24, tz)] [] (.blockN (.thenN (.region0 (.rd 3 [(4, qj 4), (21, qj 4), (20, qj 3)] [] (.loopN (.pr [1, 3, 4] [1] [] [(1, qp 1 0), (3, qb false), (4, qj 4)] [(1, some (.cells (Thing.cells a0)))] ?_))))))
      exact F52_u15_ok n a0 false

def F52_u9 (n : Nat) (a0 : Thing) (b8 : Bool) : Option Bool :=
    if b8 then
      (F57 n a0.F.a2).bind fun (r10 : Bool) =>
      F52_u12 n a0 r10
    else
      F52_u12 n a0 false
theorem F52_u9_ok (n : Nat) (a0 : Thing) (b8 : Bool) : SimL Try.prog D (n + 8) (n + 6) p52c13 [(1, qp 1 0), (3, qb b8), (4, qj 2)] [(1, some (.cells (Thing.cells a0)))] (F52_u9 n a0 b8) (QB 0 (QT Try.prog D (n + 8) p52c19 (QF false pc52_r 0 F52_e))) := by
    unfold F52_u9
    refine SimL.succ (.seq (.seq (.rg [(1, qp 1 0), (3, qb b8), (4, qj 2)] [(1, some (.cells (Thing.cells a0)))] (.rd 2 [(19, qb true), (18, qj 2)] [] (.thenN (.condT (by kernel_rfl) (.skip (.thenN (.seq (.block (.region0 (.rn 2 [(23, qb b8), (22, qb b8)] [] (.split 23 b8 (by kernel_rfl) ?_ ?_)))))))))))))
    · refine SimI.rn 4 [(27, .agg [lj a0.F.a2.N, ls a0.F.a2.Text]), (26, qp 1 7), (25, qp 1 3), (24, qj 2)] [] (.cl 28 true [[]] 57 [27] (some (23, true)) (fun r10 => qb r10) [.agg [lj a0.F.a2.N, ls a0.F.a2.Text]] (F57_ok n a0.F.a2) (fun r10 => ?_))
      refine SimI.rd 2 [(3, qb r10), (29, qb r10)] [] (.blockN (.thenN (.region0 (.rd 3 [(4, qj 3), (21, qj 3), (20, qj 2)] [] (.loopN (.pr [1, 3, 4] [1] [] [(1, qp 1 0), (3, qb r10), (4, qj 3)] [(1, some (.cells (Thing.cells a0)))] ?_))))))
      exact F52_u12_ok n a0 r10
    · refine SimI.rd 7 [(3, qb false), (29, qb false), (28, tz), (27, tz), (26, tz), (25, tz), (24, tz)] [] (.blockN (.thenN (.region0 (.rd 3 [(4, qj 3), (21, qj 3), (20, qj 2)] [] (.loopN (.pr [1, 3, 4] [1] [] [(1, qp 1 0), (3, qb false), (4, qj 3)] [(1, some (.cells (Thing.cells a0)))] ?_))))))
      exact F52_u12_ok n a0 false

def F52_u6 (n : Nat) (a0 : Thing) (b5 : Bool) : Option Bool :=
    if b5 then
      (F57 n a0.F.a1).bind fun (r7 : Bool) =>
      F52_u9 n a0 r7
    else
      F52_u9 n a0 false
theorem F52_u6_ok (n : Nat) (a0 : Thing) (b5 : Bool) : SimL Try.prog D (n + 8) (n + 7) p52c13 [(1, qp 1 0), (3, qb b5), (4, qj 1)] [(1, some (.cells (Thing.cells a0)))] (F52_u6 n a0 b5) (QB 0 (QT Try.prog D (n + 8) p52c19 (QF false pc52_r 0 F52_e))) := by
    unfold F52_u6
    refine SimL.succ (.seq (.seq (.rg [(1, qp 1 0), (3, qb b5), (4, qj 1)] [(1, some (.cells (Thing.cells a0)))] (.rd 2 [(19, qb true), (18, qj 1)] [] (.thenN (.condT (by kernel_rfl) (.skip (.thenN (.seq (.block (.region0 (.rn 2 [(23, qb b5), (22, qb b5)] [] (.split 23 b5 (by kernel_rfl) ?_ ?_)))))))))))))
    · refine SimI.rn 4 [(27, .agg [lj a0.F.a1.N, ls a0.F.a1.Text]), (26, qp 1 5), (25, qp 1 3), (24, qj 1)] [] (.cl 28 true [[]] 57 [27] (some (23, true)) (fun r7 => qb r7) [.agg [lj a0.F.a1.N, ls a0.F.a1.Text]] (F57_ok n a0.F.a1) (fun r7 => ?_))
      refine SimI.rd 2 [(3, qb r7), (29, qb r7)] [] (.blockN (.thenN (.region0 (.rd 3 [(4, qj 2), (21, qj 2), (20, qj 1)] [] (.loopN (.pr [1, 3, 4] [1] [] [(1, qp 1 0), (3, qb r7), (4, qj 2)] [(1, some (.cells (Thing.cells a0)))] ?_))))))
      exact F52_u9_ok n a0 r7
    · refine SimI.rd 7 [(3, qb false), (29, qb false), (28, tz), (27, tz), (26, tz), (25, tz), (24, tz)] [] (.blockN (.thenN (.region0 (.rd 3 [(4, qj 2), (21, qj 2), (20, qj 1)] [] (.loopN (.pr [1, 3, 4] [1] [] [(1, qp 1 0), (3, qb false), (4, qj 2)] [(1, some (.cells (Thing.cells a0)))] ?_))))))
      exact F52_u9_ok n a0 false

def F52_j3 (n : Nat) (a0 : Thing) (b2 : Bool) : Option Bool :=
    if b2 then
      (F57 n a0.F.a0).bind fun (r4 : Bool) =>
      F52_u6 n a0 r4
    else
      F52_u6 n a0 false
theorem F52_j3_ok (n : Nat) (a0 : Thing) (b2 : Bool) : Sim Try.prog D (n + 8) p52c20 [(1, qp 1 0), (3, qb b2)] [(1, some (.cells (Thing.cells a0)))] (F52_j3 n a0 b2) (QF false pc52_r 0 F52_e) := by
    unfold F52_j3
    refine Sim.seq (.seq (.rg [(1, qp 1 0), (3, qb b2)] [(1, some (.cells (Thing.cells a0)))] (.rd 1 [(4, qj 0)] [] (.thenN (.block (.loop (.succ (.seq (.seq (.rg [(1, qp 1 0), (3, qb b2), (4, qj 0)] [(1, some (.cells (Thing.cells a0)))] (.rd 2 [(19, qb true), (18, qj 0)] [] (.thenN (.condT (by kernel_rfl) (.skip (.thenN (.seq (.block (.region0 (.rn 2 [(23, qb b2), (22, qb b2)] [] (.split 23 b2 (by kernel_rfl) ?_ ?_))))))))))))))))))))
    · refine SimI.rn 4 [(27, .agg [lj a0.F.a0.N, ls a0.F.a0.Text]), (26, qp 1 3), (25, qp 1 3), (24, qj 0)] [] (.cl 28 true [[]] 57 [27] (some (23, true)) (fun r4 => qb r4) [.agg [lj a0.F.a0.N, ls a0.F.a0.Text]] (F57_ok n a0.F.a0) (fun r4 => ?_))
      refine SimI.rd 2 [(3, qb r4), (29, qb r4)] [] (.blockN (.thenN (.region0 (.rd 3 [(4, qj 1), (21, qj 1), (20, qj 0)] [] (.loopN (.pr [1, 3, 4] [1] [] [(1, qp 1 0), (3, qb r4), (4, qj 1)] [(1, some (.cells (Thing.cells a0)))] ?_))))))
      exact F52_u6_ok n a0 r4
    · refine SimI.rd 7 [(3, qb false), (29, qb false), (28, tz), (27, tz), (26, tz), (25, tz), (24, tz)] [] (.blockN (.thenN (.region0 (.rd 3 [(4, qj 1), (21, qj 1), (20, qj 0)] [] (.loopN (.pr [1, 3, 4] [1] [] [(1, qp 1 0), (3, qb false), (4, qj 1)] [(1, some (.cells (Thing.cells a0)))] ?_))))))
      exact F52_u6_ok n a0 false

def F52 (n : Nat) (a0 : Thing) : Option Bool :=
  if decide ((0 : Int) ≤ a0.ID) then
    if decide (a0.ID ≤ 1000000) then
      (F58 n a0.At).bind fun (r1 : Bool) =>
      F52_j3 n a0 r1
    else
      F52_j3 n a0 false
  else
    F52_j3 n a0 false
theorem F52_ok (n : Nat) (a0 : Thing) : ∀ r, F52 n a0 = some r → D 52 [.agg (Thing.cells a0)] [] = some (F52_e r) := by
  refine fn_to (D := D) (n := n + 8) (nt := 31) (rs := pc52_r) (c := p52c22) (L := [(0, .agg (Thing.cells a0))]) (M := []) (k := 0) rfl rfl rfl rfl rfl rfl rfl ?_
  unfold F52
  refine Sim.sr 2 [(2, qb false), (1, qp 1 0)] [(1, some (.cells (Thing.cells a0)))] (.st 4 [(8, qb (decide ((0 : Int) ≤ a0.ID))), (7, qb (decide ((0 : Int) ≤ a0.ID))), (6, qj a0.ID), (5, qp 1 0)] [] (.split 8 (decide ((0 : Int) ≤ a0.ID)) (by kernel_rfl) ?_ ?_))
  · refine SimI.rn 5 [(13, qb (decide (a0.ID ≤ 1000000))), (12, qb (decide (a0.ID ≤ 1000000))), (11, qb (decide (a0.ID ≤ 1000000))), (10, qj a0.ID), (9, qp 1 0)] [] (.split 13 (decide (a0.ID ≤ 1000000)) (by kernel_rfl) ?_ ?_)
    · refine SimI.rn 2 [(15, .agg [lj a0.At.X, lj a0.At.Y]), (14, qp 1 1)] [] (.cl 16 true [[]] 58 [15] (some (13, true)) (fun r1 => qb r1) [.agg [lj a0.At.X, lj a0.At.Y]] (F58_ok n a0.At) (fun r1 => ?_))
      refine SimI.rd 2 [(3, qb r1), (17, qb r1)] [] (.thenN (.pr [1, 3] [1] [] [(1, qp 1 0), (3, qb r1)] [(1, some (.cells (Thing.cells a0)))] ?_))
      exact F52_j3_ok n a0 r1
    · refine SimI.rd 5 [(3, qb false), (17, qb false), (16, tz), (15, tz), (14, tz)] [] (.thenN (.pr [1, 3] [1] [] [(1, qp 1 0), (3, qb false)] [(1, some (.cells (Thing.cells a0)))] ?_))
      exact F52_j3_ok n a0 false
  · refine SimI.rd 10 [(3, qb false), (17, qb false), (16, tz), (15, tz), (14, tz), (13, qb false), (12, qb false), (11, tz), (10, tz), (9, tz)] [] (.thenN (.pr [1, 3] [1] [] [(1, qp 1 0), (3, qb false)] [(1, some (.cells (Thing.cells a0)))] ?_))
    exact F52_j3_ok n a0 false


-- 25: vedette/vedetteref17.things
def F25_e : Bool → PV × List Ob := fun r => (.one (lb r), [])
def F25_l4 (n : Nat) (a0 : (List Thing)) : Nat → Int → Option Bool
  | 0, _ => none
  | m + 1, i3 =>
    if decide (i3 < ((a0).length : Int)) then
      (ix a0 i3).bind fun (x5 : Thing) =>
      (F52 n x5).bind fun (r6 : Bool) =>
      if !(r6) then
        some false
      else
        if decide ((0 : Int) < i3) then
          (ix a0 i3).bind fun (x7 : Thing) =>
          (ix a0 (IntKind.wrap .i64 (i3 - 1))).bind fun (x8 : Thing) =>
          if decide (x7.ID ≤ x8.ID) then
            some false
          else
            (F25_l4 n a0 m) (IntKind.wrap .i64 (i3 + 1))
        else
          (F25_l4 n a0 m) (IntKind.wrap .i64 (i3 + 1))
    else
      some (decide (((a0).length : Int) ≤ 200))
theorem F25_l4_ok (n : Nat) (a0 : (List Thing)) : ∀ (m : Nat) (i3 : Int), SimL Try.prog D (n + 8) m p25c18 [(0, .one (vw Thing.cod a0)), (3, qj i3)] [] (F25_l4 n a0 m i3) (QB 0 (QT Try.prog D (n + 8) p25c24 (QF false pc25_r 0 F25_e))) := by
  intro m_l4
  induction m_l4 with
  | zero => intro i3; exact SimL.zero'  rfl
  | succ m_l4 ih_l4 =>
    intro i3
    refine SimL.succ ?_
    unfold F25_l4
    refine Sim.seq (.seq (.rg [(0, .one (vw Thing.cod a0)), (3, qj i3)] [] (.rd 4 [(7, qb (decide (i3 < ((a0).length : Int)))), (6, qj ((a0).length : Int)), (5, .one (vw Thing.cod a0)), (4, qj i3)] [] (.thenN (.cond (decide (i3 < ((a0).length : Int))) (by kernel_rfl) ?_ ?_)))))
    · refine Sim.skip (.thenN (.seq (.block (.st 2 [(11, qj i3), (10, .one (vw Thing.cod a0))] [] (.bind (og := ix a0 i3) ⟨some 12, POp.iaddrS 11 (Operand.tmp 10) (Operand.tmp 11), none, [(10, Hint.imm), (11, Hint.imm)]⟩ (fun x5 => [(12, .one (.eptr (Thing.cod.enc x5) 0))]) (fun x5 => []) (by kernel_rfl) (fun x5 hr => pOp_eff (by kernel_rfl) (by kernel_rfl) (eff_idx (c := Thing.cod) (l := a0) (k := .i64) (n := i3) (by kernel_rfl) (by kernel_rfl) (by kernel_rfl) hr)) (fun x5 => ?_))))))
      refine SimI.rn 1 [(13, .agg (Thing.cells x5))] [] (.bind (og := F52 n x5) ⟨some 14, POp.call false [[]] 52 [13], none, [(13, Hint.imm)]⟩ (fun r6 => [(14, qb r6)]) (fun r6 => []) (by kernel_rfl) (fun r6 hr => pOp_eff (by kernel_rfl) (by kernel_rfl) (eff_call (ARGS := [.agg (Thing.cells x5)]) (by kernel_rfl) (args_clean (by kernel_rfl) args_nil) (F52_ok n x5 r6 hr) (by kernel_rfl))) (fun r6 => ?_))
      refine SimI.rn 2 [(16, qb (!(r6))), (15, qb (!(r6)))] [] (.split 16 (!(r6)) (by kernel_rfl) ?_ ?_)
      · exact SimI.rd 17 [(33, qb true), (32, tz), (31, tz), (30, tz), (29, tz), (28, tz), (27, tz), (26, tz), (25, tz), (24, tz), (23, tz), (22, tz), (21, tz), (20, tz), (19, tz), (18, tz), (17, tz)] [] (.thenN (.condT (by kernel_rfl) (.sr 1 [(2, qb false)] [] (.ret (.blockR (.thenR (.loopR (.blockR (.thenR .fn)))))))))
      · refine SimI.rn 3 [(19, qb (decide ((0 : Int) < i3))), (18, qb (decide ((0 : Int) < i3))), (17, qj i3)] [] (.split 19 (decide ((0 : Int) < i3)) (by kernel_rfl) ?_ ?_)
        · refine SimI.rn 2 [(21, qj i3), (20, .one (vw Thing.cod a0))] [] (.bind (og := ix a0 i3) ⟨some 22, POp.iaddrS 11 (Operand.tmp 20) (Operand.tmp 21), some (19, true), [(20, Hint.imm), (21, Hint.imm)]⟩ (fun x7 => [(22, .one (.eptr (Thing.cod.enc x7) 0))]) (fun x7 => []) (by kernel_rfl) (fun x7 hr => pOp_eff (by kernel_rfl) (by kernel_rfl) (eff_idx (c := Thing.cod) (l := a0) (k := .i64) (n := i3) (by kernel_rfl) (by kernel_rfl) (by kernel_rfl) hr)) (fun x7 => ?_))
          refine SimI.rn 5 [(27, qj (iw .i64 (i3 - 1))), (26, qj i3), (25, .one (vw Thing.cod a0)), (24, qj x7.ID), (23, .one (.eptr (Thing.cod.enc x7) 0))] [] (.bind (og := ix a0 (iw .i64 (i3 - 1))) ⟨some 28, POp.iaddrS 11 (Operand.tmp 25) (Operand.tmp 27), some (19, true), [(25, Hint.imm), (27, Hint.imm)]⟩ (fun x8 => [(28, .one (.eptr (Thing.cod.enc x8) 0))]) (fun x8 => []) (by kernel_rfl) (fun x8 hr => pOp_eff (by kernel_rfl) (by kernel_rfl) (eff_idx (c := Thing.cod) (l := a0) (k := .i64) (n := IntKind.wrap .i64 (i3 - 1)) (by kernel_rfl) (by kernel_rfl) (by kernel_rfl) hr)) (fun x8 => ?_))
          refine SimI.rd 5 [(33, qb (decide (x7.ID ≤ x8.ID))), (32, qb (decide (x7.ID ≤ x8.ID))), (31, qb (decide (x7.ID ≤ x8.ID))), (30, qj x8.ID), (29, .one (.eptr (Thing.cod.enc x8) 0))] [] (.thenN (.cond (decide (x7.ID ≤ x8.ID)) (by kernel_rfl) ?_ ?_))
          · exact Sim.sr 1 [(2, qb false)] [] (.ret (.blockR (.thenR (.loopR (.blockR (.thenR .fn))))))
          · refine Sim.skip (.blockN (.thenN (.region0 (.rd 3 [(3, qj (iw .i64 (i3 + 1))), (9, qj (iw .i64 (i3 + 1))), (8, qj i3)] [] (.loopN (.pr [0, 3] [] [] [(0, .one (vw Thing.cod a0)), (3, qj (iw .i64 (i3 + 1)))] [] ?_))))))
            exact ih_l4 (iw .i64 (i3 + 1))
        · refine SimI.rd 14 [(33, qb false), (32, qb false), (31, tz), (30, tz), (29, tz), (28, tz), (27, tz), (26, tz), (25, tz), (24, tz), (23, tz), (22, tz), (21, tz), (20, tz)] [] (.thenN (.condF (by kernel_rfl) (.skip (.blockN (.thenN (.region0 (.rd 3 [(3, qj (iw .i64 (i3 + 1))), (9, qj (iw .i64 (i3 + 1))), (8, qj i3)] [] (.loopN (.pr [0, 3] [] [] [(0, .one (vw Thing.cod a0)), (3, qj (iw .i64 (i3 + 1)))] [] ?_)))))))))
          exact ih_l4 (iw .i64 (i3 + 1))
    · exact Sim.exit (.thenX (.loopX (.blockX (.thenN (.sr 4 [(2, qb (decide (((a0).length : Int) ≤ 200))), (36, qb (decide (((a0).length : Int) ≤ 200))), (35, qj ((a0).length : Int)), (34, .one (vw Thing.cod a0))] [] (.ret .fn))))))

def F25 (n : Nat) (a0 : (List Thing)) : Option Bool :=
  F25_l4 n a0 (n + 8) 0
theorem F25_ok (n : Nat) (a0 : (List Thing)) : ∀ r, F25 n a0 = some r → D 25 [.one (vw Thing.cod a0)] [] = some (F25_e r) := by
  refine fn_to (D := D) (n := n + 8) (nt := 37) (rs := pc25_r) (c := p25c26) (L := [(0, .one (vw Thing.cod a0))]) (M := []) (k := 0) rfl rfl rfl rfl rfl rfl rfl ?_
  unfold F25
  refine Sim.sr 1 [(2, qb false)] [] (.seq (.sr 1 [(3, qj 0)] [] (.block (.loop (.pr [0, 3] [] [] [(0, .one (vw Thing.cod a0)), (3, qj 0)] [] ?_)))))
  exact F25_l4_ok n a0 (n + 8) 0


-- 26: vedette/vedetteref3.IsCell
def F26_e : Bool → PV × List Ob := fun r => (.one (lb r), [])
def F26 (n : Nat) (a0 : Int) : Option Bool :=
  if decide ((0 : Int) ≤ a0) then
    some (decide (a0 < 16))
  else
    some false
theorem F26_ok (n : Nat) (a0 : Int) : ∀ r, F26 n a0 = some r → D 26 [.one (li .i64 a0)] [] = some (F26_e r) := by
  refine fn_to (D := D) (n := n + 8) (nt := 9) (rs := pc26_r) (c := p26c5) (L := [(0, qj a0)]) (M := []) (k := 0) rfl rfl rfl rfl rfl rfl rfl ?_
  unfold F26
  refine Sim.sr 1 [(2, qb false)] [] (.st 3 [(5, qb (decide ((0 : Int) ≤ a0))), (4, qb (decide ((0 : Int) ≤ a0))), (3, qj a0)] [] (.split 5 (decide ((0 : Int) ≤ a0)) (by kernel_rfl) ?_ ?_))
  · exact SimI.rd 4 [(2, qb (decide (a0 < 16))), (8, qb (decide (a0 < 16))), (7, qb (decide (a0 < 16))), (6, qj a0)] [] (.thenN (.ret .fn))
  · exact SimI.rd 4 [(2, qb false), (8, qb false), (7, tz), (6, tz)] [] (.thenN (.ret .fn))


-- 53: vedette/vedetteref10.within
def F53_e : Bool → PV × List Ob := fun r => (.one (lb r), [])
def F53 (n : Nat) (a0 : Int) (a1 : Int) (a2 : Int) : Option Bool :=
  if decide (a1 ≤ a0) then
    some (decide (a0 ≤ a2))
  else
    some false
theorem F53_ok (n : Nat) (a0 : Int) (a1 : Int) (a2 : Int) : ∀ r, F53 n a0 a1 a2 = some r → D 53 [.one (li .i64 a0), .one (li .i64 a1), .one (li .i64 a2)] [] = some (F53_e r) := by
  refine fn_to (D := D) (n := n + 8) (nt := 15) (rs := pc53_r) (c := p53c5) (L := [(0, qj a0), (1, qj a1), (2, qj a2)]) (M := []) (k := 0) rfl rfl rfl rfl rfl rfl rfl ?_
  unfold F53
  refine Sim.sr 1 [(6, qb false)] [] (.st 4 [(10, qb (decide (a1 ≤ a0))), (9, qb (decide (a1 ≤ a0))), (8, qj a1), (7, qj a0)] [] (.split 10 (decide (a1 ≤ a0)) (by kernel_rfl) ?_ ?_))
  · exact SimI.rd 5 [(6, qb (decide (a0 ≤ a2))), (14, qb (decide (a0 ≤ a2))), (13, qb (decide (a0 ≤ a2))), (12, qj a2), (11, qj a0)] [] (.thenN (.ret .fn))
  · exact SimI.rd 5 [(6, qb false), (14, qb false), (13, tz), (12, tz), (11, tz)] [] (.thenN (.ret .fn))


-- 54: vedette/vedetteref10.shape
def F54_e : Command → PV × List Ob := fun r => (.agg (Command.cells r), [])
def F54 (n : Nat) (a0 : Command) : Option Command :=
  if a0.Kind == 1 then
    some (Command.mk a0.Kind 0 0 0 a0.At a0.F (Field.mk 0 ByteArray.empty) a0.Client a0.Session (Rect.mk 0 0 0 0))
  else
    if a0.Kind == 2 then
      some (Command.mk a0.Kind a0.ID 0 0 a0.At (A4.mk (Field.mk 0 ByteArray.empty) (Field.mk 0 ByteArray.empty) (Field.mk 0 ByteArray.empty) (Field.mk 0 ByteArray.empty)) (Field.mk 0 ByteArray.empty) a0.Client a0.Session (Rect.mk 0 0 0 0))
    else
      if a0.Kind == 3 then
        some (Command.mk a0.Kind a0.ID a0.Which 0 (Point.mk 0 0) (A4.mk (Field.mk 0 ByteArray.empty) (Field.mk 0 ByteArray.empty) (Field.mk 0 ByteArray.empty) (Field.mk 0 ByteArray.empty)) a0.Value a0.Client a0.Session (Rect.mk 0 0 0 0))
      else
        if a0.Kind == 4 then
          some (Command.mk a0.Kind a0.ID 0 0 (Point.mk 0 0) (A4.mk (Field.mk 0 ByteArray.empty) (Field.mk 0 ByteArray.empty) (Field.mk 0 ByteArray.empty) (Field.mk 0 ByteArray.empty)) (Field.mk 0 ByteArray.empty) a0.Client a0.Session (Rect.mk 0 0 0 0))
        else
          if a0.Kind == 5 then
            some (Command.mk a0.Kind 0 a0.Which a0.To (Point.mk 0 0) (A4.mk (Field.mk 0 ByteArray.empty) (Field.mk 0 ByteArray.empty) (Field.mk 0 ByteArray.empty) (Field.mk 0 ByteArray.empty)) (Field.mk 0 ByteArray.empty) a0.Client a0.Session (Rect.mk 0 0 0 0))
          else
            if a0.Kind == 6 then
              if a0.Kind == 6 then
                some (Command.mk a0.Kind 0 0 0 (Point.mk 0 0) (A4.mk (Field.mk 0 ByteArray.empty) (Field.mk 0 ByteArray.empty) (Field.mk 0 ByteArray.empty) (Field.mk 0 ByteArray.empty)) (Field.mk 0 ByteArray.empty) a0.Client a0.Session a0.Rect)
              else
                some (Command.mk a0.Kind 0 0 0 (Point.mk 0 0) (A4.mk (Field.mk 0 ByteArray.empty) (Field.mk 0 ByteArray.empty) (Field.mk 0 ByteArray.empty) (Field.mk 0 ByteArray.empty)) (Field.mk 0 ByteArray.empty) a0.Client a0.Session (Rect.mk 0 0 0 0))
            else
              if a0.Kind == 7 then
                some (Command.mk a0.Kind 0 0 0 (Point.mk 0 0) (A4.mk (Field.mk 0 ByteArray.empty) (Field.mk 0 ByteArray.empty) (Field.mk 0 ByteArray.empty) (Field.mk 0 ByteArray.empty)) (Field.mk 0 ByteArray.empty) a0.Client a0.Session a0.Rect)
              else
                some (Command.mk a0.Kind 0 0 0 (Point.mk 0 0) (A4.mk (Field.mk 0 ByteArray.empty) (Field.mk 0 ByteArray.empty) (Field.mk 0 ByteArray.empty) (Field.mk 0 ByteArray.empty)) (Field.mk 0 ByteArray.empty) a0.Client a0.Session (Rect.mk 0 0 0 0))
theorem F54_ok (n : Nat) (a0 : Command) : ∀ r, F54 n a0 = some r → D 54 [.agg (Command.cells a0)] [] = some (F54_e r) := by
  refine fn_to (D := D) (n := n + 8) (nt := 60) (rs := pc54_r) (c := p54c40) (L := [(0, .agg (Command.cells a0))]) (M := []) (k := 0) rfl rfl rfl rfl rfl rfl rfl ?_
  unfold F54
  refine Sim.sr 2 [(2, qp 2 0), (1, qp 1 0)] [(2, some (.cells [lj 0, lj 0, lj 0, lj 0, lj 0, lj 0, lj 0, ls be, lj 0, ls be, lj 0, ls be, lj 0, ls be, lj 0, ls be, lj 0, lj 0, lj 0, lj 0, lj 0, lj 0])), (1, some (.cells (Command.cells a0)))] (.sr 9 [(3, qp 3 0), (10, .agg (w1 a0)), (9, qj a0.Session), (8, qp 1 17), (7, qj a0.Client), (6, qp 1 16), (5, qj a0.Kind), (4, qp 1 0)] [(3, some (.cells (w1 a0))), (3, some (.cells [lj 0, lj 0, lj 0, lj 0, lj 0, lj 0, lj 0, ls be, lj 0, ls be, lj 0, ls be, lj 0, ls be, lj 0, ls be, lj 0, lj 0, lj 0, lj 0, lj 0, lj 0]))] (.seq (.sr 2 [(12, qj a0.Kind), (11, qp 1 0)] [] (.block (.sr 2 [(13, qb (a0.Kind == 1)), (14, qb (a0.Kind == 1))] [] (.cond (a0.Kind == 1) (by kernel_rfl) ?_ ?_))))))
  · exact Sim.region0 (.rd 8 [(20, qp 3 6), (19, qp 3 4), (18, .agg (A4_Field.cells a0.F)), (17, qp 1 6), (16, .agg [lj a0.At.X, lj a0.At.Y]), (15, qp 1 4)] [(3, some (.cells [lj a0.Kind, lj 0, lj 0, lj 0, lj a0.At.X, lj a0.At.Y, lj a0.F.a0.N, ls a0.F.a0.Text, lj a0.F.a1.N, ls a0.F.a1.Text, lj a0.F.a2.N, ls a0.F.a2.Text, lj a0.F.a3.N, ls a0.F.a3.Text, lj 0, ls be, lj a0.Client, lj a0.Session, lj 0, lj 0, lj 0, lj 0])), (3, some (.cells (w14 a0)))] (.blockN (.thenN (.sr 2 [(59, .agg [lj a0.Kind, lj 0, lj 0, lj 0, lj a0.At.X, lj a0.At.Y, lj a0.F.a0.N, ls a0.F.a0.Text, lj a0.F.a1.N, ls a0.F.a1.Text, lj a0.F.a2.N, ls a0.F.a2.Text, lj a0.F.a3.N, ls a0.F.a3.Text, lj 0, ls be, lj a0.Client, lj a0.Session, lj 0, lj 0, lj 0, lj 0])] [(2, some (.cells [lj a0.Kind, lj 0, lj 0, lj 0, lj a0.At.X, lj a0.At.Y, lj a0.F.a0.N, ls a0.F.a0.Text, lj a0.F.a1.N, ls a0.F.a1.Text, lj a0.F.a2.N, ls a0.F.a2.Text, lj a0.F.a3.N, ls a0.F.a3.Text, lj 0, ls be, lj a0.Client, lj a0.Session, lj 0, lj 0, lj 0, lj 0]))] (.ret .fn)))))
  · refine Sim.sr 2 [(21, qb (a0.Kind == 2)), (22, qb (a0.Kind == 2))] [] (.cond (a0.Kind == 2) (by kernel_rfl) ?_ ?_)
    · exact Sim.region0 (.rd 8 [(28, qp 3 4), (27, qp 3 1), (26, .agg [lj a0.At.X, lj a0.At.Y]), (25, qp 1 4), (24, qj a0.ID), (23, qp 1 1)] [(3, some (.cells (w4 a0))), (3, some (.cells (w3 a0)))] (.blockN (.thenN (.sr 2 [(59, .agg (w4 a0))] [(2, some (.cells (w4 a0)))] (.ret .fn)))))
    · refine Sim.sr 2 [(29, qb (a0.Kind == 3)), (30, qb (a0.Kind == 3))] [] (.cond (a0.Kind == 3) (by kernel_rfl) ?_ ?_)
      · exact Sim.region0 (.rd 12 [(39, qp 3 14), (38, qp 3 2), (37, qp 3 1), (36, .agg [lj a0.Value.N, ls a0.Value.Text]), (35, qp 1 14), (34, qj a0.Which), (33, qp 1 2), (32, qj a0.ID), (31, qp 1 1)] [(3, some (.cells (w5 a0))), (3, some (.cells (w15 a0))), (3, some (.cells (w3 a0)))] (.blockN (.thenN (.sr 2 [(59, .agg (w5 a0))] [(2, some (.cells (w5 a0)))] (.ret .fn)))))
      · refine Sim.sr 2 [(40, qb (a0.Kind == 4)), (41, qb (a0.Kind == 4))] [] (.cond (a0.Kind == 4) (by kernel_rfl) ?_ ?_)
        · exact Sim.region0 (.rd 4 [(44, qp 3 1), (43, qj a0.ID), (42, qp 1 1)] [(3, some (.cells (w3 a0)))] (.blockN (.thenN (.sr 2 [(59, .agg (w3 a0))] [(2, some (.cells (w3 a0)))] (.ret .fn)))))
        · refine Sim.sr 2 [(45, qb (a0.Kind == 5)), (46, qb (a0.Kind == 5))] [] (.cond (a0.Kind == 5) (by kernel_rfl) ?_ ?_)
          · exact Sim.region0 (.rd 8 (w16 a0) [(3, some (.cells (w6 a0))), (3, some (.cells (w17 a0)))] (.blockN (.thenN (.sr 2 [(59, .agg (w6 a0))] [(2, some (.cells (w6 a0)))] (.ret .fn)))))
          · refine Sim.seq (.sr 2 [(53, qb (a0.Kind == 6)), (54, qb (a0.Kind == 6))] [] (.cond (a0.Kind == 6) (by kernel_rfl) ?_ ?_))
            · refine Sim.skip (.thenN (.cond (a0.Kind == 6) (by kernel_rfl) ?_ ?_))
              · exact Sim.region0 (.rd 4 (w7 a0) [(3, some (.cells (w2 a0)))] (.blockN (.thenN (.sr 2 [(59, .agg (w2 a0))] [(2, some (.cells (w2 a0)))] (.ret .fn)))))
              · exact Sim.skip (.blockN (.thenN (.sr 2 [(59, .agg (w1 a0))] [(2, some (.cells (w1 a0)))] (.ret .fn))))
            · refine Sim.region0 (.rd 2 [(53, qb (a0.Kind == 7)), (55, qb (a0.Kind == 7))] [] (.thenN (.cond (a0.Kind == 7) (by kernel_rfl) ?_ ?_)))
              · exact Sim.region0 (.rd 4 (w7 a0) [(3, some (.cells (w2 a0)))] (.blockN (.thenN (.sr 2 [(59, .agg (w2 a0))] [(2, some (.cells (w2 a0)))] (.ret .fn)))))
              · exact Sim.skip (.blockN (.thenN (.sr 2 [(59, .agg (w1 a0))] [(2, some (.cells (w1 a0)))] (.ret .fn))))


-- 55: vedette/vedetteref10.point
def F55_e : Bool → PV × List Ob := fun r => (.one (lb r), [])
def F55 (n : Nat) (a0 : Point) : Option Bool :=
  (F53 n a0.X (-1000) 1000).bind fun (r1 : Bool) =>
  if r1 then
    (F53 n a0.Y (-1000) 1000).bind fun (r2 : Bool) =>
    some r2
  else
    some false
theorem F55_ok (n : Nat) (a0 : Point) : ∀ r, F55 n a0 = some r → D 55 [.agg [li .i64 a0.X, li .i64 a0.Y]] [] = some (F55_e r) := by
  refine fn_to (D := D) (n := n + 8) (nt := 11) (rs := pc55_r) (c := p55c5) (L := [(0, .agg [lj a0.X, lj a0.Y])]) (M := []) (k := 0) rfl rfl rfl rfl rfl rfl rfl ?_
  unfold F55
  refine Sim.sr 2 [(2, qb false), (1, qp 1 0)] [(1, some (.cells [lj a0.X, lj a0.Y]))] (.st 2 [(4, qj a0.X), (3, qp 1 0)] [] (.cl 5 true [[], [], []] 53 [4, Operand.const (Value.int IntKind.i64 (-1000)), Operand.const (Value.int IntKind.i64 1000)] none (fun r1 => qb r1) [qj a0.X, qj (-1000), qj 1000] (F53_ok n a0.X (-1000) 1000) (fun r1 => ?_)))
  refine SimI.rn 1 [(6, qb r1)] [] (.split 6 r1 (by kernel_rfl) ?_ ?_)
  · refine SimI.rn 2 [(8, qj a0.Y), (7, qp 1 1)] [] (.cl 9 true [[], [], []] 53 [8, Operand.const (Value.int IntKind.i64 (-1000)), Operand.const (Value.int IntKind.i64 1000)] (some (6, true)) (fun r2 => qb r2) [qj a0.Y, qj (-1000), qj 1000] (F53_ok n a0.Y (-1000) 1000) (fun r2 => ?_))
    exact SimI.rd 2 [(2, qb r2), (10, qb r2)] [] (.thenN (.ret .fn))
  · exact SimI.rd 5 [(2, qb false), (10, qb false), (9, tz), (8, tz), (7, tz)] [] (.thenN (.ret .fn))


-- 56: vedette/vedetteref10.rect
def F56_e : Bool → PV × List Ob := fun r => (.one (lb r), [])
def F56 (n : Nat) (a0 : Rect) : Option Bool :=
  (F55 n (Point.mk a0.X0 a0.Y0)).bind fun (r1 : Bool) =>
  if r1 then
    (F55 n (Point.mk a0.X1 a0.Y1)).bind fun (r2 : Bool) =>
    some r2
  else
    some false
theorem F56_ok (n : Nat) (a0 : Rect) : ∀ r, F56 n a0 = some r → D 56 [.agg (Rect.cells a0)] [] = some (F56_e r) := by
  refine fn_to (D := D) (n := n + 8) (nt := 17) (rs := pc56_r) (c := p56c5) (L := [(0, .agg (Rect.cells a0))]) (M := []) (k := 0) rfl rfl rfl rfl rfl rfl rfl ?_
  unfold F56
  refine Sim.sr 2 [(2, qb false), (1, qp 1 0)] [(1, some (.cells (Rect.cells a0)))] (.st 5 [(7, .agg [lj a0.X0, lj a0.Y0]), (6, qj a0.Y0), (5, qp 1 1), (4, qj a0.X0), (3, qp 1 0)] [] (.cl 8 true [[]] 55 [7] none (fun r1 => qb r1) [.agg [lj a0.X0, lj a0.Y0]] (F55_ok n (Point.mk a0.X0 a0.Y0)) (fun r1 => ?_)))
  refine SimI.rn 1 [(9, qb r1)] [] (.split 9 r1 (by kernel_rfl) ?_ ?_)
  · refine SimI.rn 5 [(14, .agg [lj a0.X1, lj a0.Y1]), (13, qj a0.Y1), (12, qp 1 3), (11, qj a0.X1), (10, qp 1 2)] [] (.cl 15 true [[]] 55 [14] (some (9, true)) (fun r2 => qb r2) [.agg [lj a0.X1, lj a0.Y1]] (F55_ok n (Point.mk a0.X1 a0.Y1)) (fun r2 => ?_))
    exact SimI.rd 2 [(2, qb r2), (16, qb r2)] [] (.thenN (.ret .fn))
  · exact SimI.rd 8 [(2, qb false), (16, qb false), (15, tz), (14, tz), (13, tz), (12, tz), (11, tz), (10, tz)] [] (.thenN (.ret .fn))


-- 27: vedette/vedetteref10.Is
def F27_e : Bool → PV × List Ob := fun r => (.one (lb r), [])
def F27_u24 (n : Nat) (b23 : Bool) : Option Bool :=
    some b23
theorem F27_u24_ok (n : Nat) (a0 : Command) (b23 : Bool) : SimL Try.prog D (n + 8) (n + 4) p27c13 [(1, qp 1 0), (3, qb b23), (4, qj 4)] [(1, some (.cells (Command.cells a0)))] (F27_u24 n b23) (QB 0 (QT Try.prog D (n + 8) p27c19 (QF false pc27_r 0 F27_e))) := by
    unfold F27_u24
    exact SimL.succ (.seq (.seq (.rg [(1, qp 1 0), (3, qb b23), (4, qj 4)] [(1, some (.cells (Command.cells a0)))] (.rd 2 [(55, qb false), (54, qj 4)] [] (.thenN (.condF (by kernel_rfl) (.exit (.thenX (.loopX (.blockX (.thenN (.sr 2 [(2, qb b23), (66, qb b23)] [] (.ret .fn)))))))))))))

def F27_u21 (n : Nat) (a0 : Command) (b20 : Bool) : Option Bool :=
    if b20 then
      (F57 n a0.F.a3).bind fun (r22 : Bool) =>
      F27_u24 n r22
    else
      F27_u24 n false
theorem F27_u21_ok (n : Nat) (a0 : Command) (b20 : Bool) : SimL Try.prog D (n + 8) (n + 5) p27c13 [(1, qp 1 0), (3, qb b20), (4, qj 3)] [(1, some (.cells (Command.cells a0)))] (F27_u21 n a0 b20) (QB 0 (QT Try.prog D (n + 8) p27c19 (QF false pc27_r 0 F27_e))) := by
    unfold F27_u21
    refine SimL.succ (.seq (.seq (.rg [(1, qp 1 0), (3, qb b20), (4, qj 3)] [(1, some (.cells (Command.cells a0)))] (.rd 2 [(55, qb true), (54, qj 3)] [] (.thenN (.condT (by kernel_rfl) (.skip (.thenN (.seq (.block (.region0 (.rn 2 [(59, qb b20), (58, qb b20)] [] (.split 59 b20 (by kernel_rfl) ?_ ?_)))))))))))))
    · refine SimI.rn 4 [(63, .agg [lj a0.F.a3.N, ls a0.F.a3.Text]), (62, qp 1 12), (61, qp 1 6), (60, qj 3)] [] (.cl 64 true [[]] 57 [63] (some (59, true)) (fun r22 => qb r22) [.agg [lj a0.F.a3.N, ls a0.F.a3.Text]] (F57_ok n a0.F.a3) (fun r22 => ?_))
      refine SimI.rd 2 [(3, qb r22), (65, qb r22)] [] (.blockN (.thenN (.region0 (.rd 3 [(4, qj 4), (57, qj 4), (56, qj 3)] [] (.loopN (.pr [1, 3, 4] [1] [] [(1, qp 1 0), (3, qb r22), (4, qj 4)] [(1, some (.cells (Command.cells a0)))] ?_))))))
      exact F27_u24_ok n a0 r22
    · refine SimI.rd 7 [(3, qb false), (65, qb false), (64, tz), (63, tz), (62, tz), (61, tz), (60, tz)] [] (.blockN (.thenN (.region0 (.rd 3 [(4, qj 4), (57, qj 4), (56, qj 3)] [] (.loopN (.pr [1, 3, 4] [1] [] [(1, qp 1 0), (3, qb false), (4, qj 4)] [(1, some (.cells (Command.cells a0)))] ?_))))))
      exact F27_u24_ok n a0 false

def F27_u18 (n : Nat) (a0 : Command) (b17 : Bool) : Option Bool :=
    if b17 then
      (F57 n a0.F.a2).bind fun (r19 : Bool) =>
      F27_u21 n a0 r19
    else
      F27_u21 n a0 false
theorem F27_u18_ok (n : Nat) (a0 : Command) (b17 : Bool) : SimL Try.prog D (n + 8) (n + 6) p27c13 [(1, qp 1 0), (3, qb b17), (4, qj 2)] [(1, some (.cells (Command.cells a0)))] (F27_u18 n a0 b17) (QB 0 (QT Try.prog D (n + 8) p27c19 (QF false pc27_r 0 F27_e))) := by
    unfold F27_u18
    refine SimL.succ (.seq (.seq (.rg [(1, qp 1 0), (3, qb b17), (4, qj 2)] [(1, some (.cells (Command.cells a0)))] (.rd 2 [(55, qb true), (54, qj 2)] [] (.thenN (.condT (by kernel_rfl) (.skip (.thenN (.seq (.block (.region0 (.rn 2 [(59, qb b17), (58, qb b17)] [] (.split 59 b17 (by kernel_rfl) ?_ ?_)))))))))))))
    · refine SimI.rn 4 [(63, .agg [lj a0.F.a2.N, ls a0.F.a2.Text]), (62, qp 1 10), (61, qp 1 6), (60, qj 2)] [] (.cl 64 true [[]] 57 [63] (some (59, true)) (fun r19 => qb r19) [.agg [lj a0.F.a2.N, ls a0.F.a2.Text]] (F57_ok n a0.F.a2) (fun r19 => ?_))
      refine SimI.rd 2 [(3, qb r19), (65, qb r19)] [] (.blockN (.thenN (.region0 (.rd 3 [(4, qj 3), (57, qj 3), (56, qj 2)] [] (.loopN (.pr [1, 3, 4] [1] [] [(1, qp 1 0), (3, qb r19), (4, qj 3)] [(1, some (.cells (Command.cells a0)))] ?_))))))
      exact F27_u21_ok n a0 r19
    · refine SimI.rd 7 [(3, qb false), (65, qb false), (64, tz), (63, tz), (62, tz), (61, tz), (60, tz)] [] (.blockN (.thenN (.region0 (.rd 3 [(4, qj 3), (57, qj 3), (56, qj 2)] [] (.loopN (.pr [1, 3, 4] [1] [] [(1, qp 1 0), (3, qb false), (4, qj 3)] [(1, some (.cells (Command.cells a0)))] ?_))))))
      exact F27_u21_ok n a0 false

def F27_u15 (n : Nat) (a0 : Command) (b14 : Bool) : Option Bool :=
    if b14 then
      (F57 n a0.F.a1).bind fun (r16 : Bool) =>
      F27_u18 n a0 r16
    else
      F27_u18 n a0 false
theorem F27_u15_ok (n : Nat) (a0 : Command) (b14 : Bool) : SimL Try.prog D (n + 8) (n + 7) p27c13 [(1, qp 1 0), (3, qb b14), (4, qj 1)] [(1, some (.cells (Command.cells a0)))] (F27_u15 n a0 b14) (QB 0 (QT Try.prog D (n + 8) p27c19 (QF false pc27_r 0 F27_e))) := by
    unfold F27_u15
    refine SimL.succ (.seq (.seq (.rg [(1, qp 1 0), (3, qb b14), (4, qj 1)] [(1, some (.cells (Command.cells a0)))] (.rd 2 [(55, qb true), (54, qj 1)] [] (.thenN (.condT (by kernel_rfl) (.skip (.thenN (.seq (.block (.region0 (.rn 2 [(59, qb b14), (58, qb b14)] [] (.split 59 b14 (by kernel_rfl) ?_ ?_)))))))))))))
    · refine SimI.rn 4 [(63, .agg [lj a0.F.a1.N, ls a0.F.a1.Text]), (62, qp 1 8), (61, qp 1 6), (60, qj 1)] [] (.cl 64 true [[]] 57 [63] (some (59, true)) (fun r16 => qb r16) [.agg [lj a0.F.a1.N, ls a0.F.a1.Text]] (F57_ok n a0.F.a1) (fun r16 => ?_))
      refine SimI.rd 2 [(3, qb r16), (65, qb r16)] [] (.blockN (.thenN (.region0 (.rd 3 [(4, qj 2), (57, qj 2), (56, qj 1)] [] (.loopN (.pr [1, 3, 4] [1] [] [(1, qp 1 0), (3, qb r16), (4, qj 2)] [(1, some (.cells (Command.cells a0)))] ?_))))))
      exact F27_u18_ok n a0 r16
    · refine SimI.rd 7 [(3, qb false), (65, qb false), (64, tz), (63, tz), (62, tz), (61, tz), (60, tz)] [] (.blockN (.thenN (.region0 (.rd 3 [(4, qj 2), (57, qj 2), (56, qj 1)] [] (.loopN (.pr [1, 3, 4] [1] [] [(1, qp 1 0), (3, qb false), (4, qj 2)] [(1, some (.cells (Command.cells a0)))] ?_))))))
      exact F27_u18_ok n a0 false

def F27_j12 (n : Nat) (a0 : Command) (b11 : Bool) : Option Bool :=
    if b11 then
      (F57 n a0.F.a0).bind fun (r13 : Bool) =>
      F27_u15 n a0 r13
    else
      F27_u15 n a0 false
theorem F27_j12_ok (n : Nat) (a0 : Command) (b11 : Bool) : Sim Try.prog D (n + 8) p27c20 [(1, qp 1 0), (3, qb b11)] [(1, some (.cells (Command.cells a0)))] (F27_j12 n a0 b11) (QF false pc27_r 0 F27_e) := by
    unfold F27_j12
    refine Sim.seq (.seq (.rg [(1, qp 1 0), (3, qb b11)] [(1, some (.cells (Command.cells a0)))] (.rd 1 [(4, qj 0)] [] (.thenN (.block (.loop (.succ (.seq (.seq (.rg [(1, qp 1 0), (3, qb b11), (4, qj 0)] [(1, some (.cells (Command.cells a0)))] (.rd 2 [(55, qb true), (54, qj 0)] [] (.thenN (.condT (by kernel_rfl) (.skip (.thenN (.seq (.block (.region0 (.rn 2 [(59, qb b11), (58, qb b11)] [] (.split 59 b11 (by kernel_rfl) ?_ ?_))))))))))))))))))))
    · refine SimI.rn 4 [(63, .agg [lj a0.F.a0.N, ls a0.F.a0.Text]), (62, qp 1 6), (61, qp 1 6), (60, qj 0)] [] (.cl 64 true [[]] 57 [63] (some (59, true)) (fun r13 => qb r13) [.agg [lj a0.F.a0.N, ls a0.F.a0.Text]] (F57_ok n a0.F.a0) (fun r13 => ?_))
      refine SimI.rd 2 [(3, qb r13), (65, qb r13)] [] (.blockN (.thenN (.region0 (.rd 3 [(4, qj 1), (57, qj 1), (56, qj 0)] [] (.loopN (.pr [1, 3, 4] [1] [] [(1, qp 1 0), (3, qb r13), (4, qj 1)] [(1, some (.cells (Command.cells a0)))] ?_))))))
      exact F27_u15_ok n a0 r13
    · refine SimI.rd 7 [(3, qb false), (65, qb false), (64, tz), (63, tz), (62, tz), (61, tz), (60, tz)] [] (.blockN (.thenN (.region0 (.rd 3 [(4, qj 1), (57, qj 1), (56, qj 0)] [] (.loopN (.pr [1, 3, 4] [1] [] [(1, qp 1 0), (3, qb false), (4, qj 1)] [(1, some (.cells (Command.cells a0)))] ?_))))))
      exact F27_u15_ok n a0 false

def F27 (n : Nat) (a0 : Command) : Option Bool :=
  (F53 n a0.Kind 1 8).bind fun (r1 : Bool) =>
  if r1 then
    (F53 n a0.Client 0 3).bind fun (r2 : Bool) =>
    if r2 then
      (F53 n a0.Session 0 1000000).bind fun (r3 : Bool) =>
      if r3 then
        (F54 n a0).bind fun (r4 : Command) =>
        if Command.eqb a0 r4 then
          (F55 n a0.At).bind fun (r5 : Bool) =>
          if r5 then
            (F56 n a0.Rect).bind fun (r6 : Bool) =>
            if r6 then
              (F53 n a0.ID 0 1000000).bind fun (r7 : Bool) =>
              if r7 then
                (F53 n a0.Which (-1) 100).bind fun (r8 : Bool) =>
                if r8 then
                  (F53 n a0.To (-1) 100).bind fun (r9 : Bool) =>
                  if r9 then
                    (F57 n a0.Value).bind fun (r10 : Bool) =>
                    F27_j12 n a0 r10
                  else
                    F27_j12 n a0 false
                else
                  F27_j12 n a0 false
              else
                F27_j12 n a0 false
            else
              F27_j12 n a0 false
          else
            F27_j12 n a0 false
        else
          F27_j12 n a0 false
      else
        F27_j12 n a0 false
    else
      F27_j12 n a0 false
  else
    F27_j12 n a0 false
theorem F27_ok (n : Nat) (a0 : Command) : ∀ r, F27 n a0 = some r → D 27 [.agg (Command.cells a0)] [] = some (F27_e r) := by
  refine fn_to (D := D) (n := n + 8) (nt := 67) (rs := pc27_r) (c := p27c22) (L := [(0, .agg (Command.cells a0))]) (M := []) (k := 0) rfl rfl rfl rfl rfl rfl rfl ?_
  unfold F27
  refine Sim.sr 2 [(2, qb false), (1, qp 1 0)] [(1, some (.cells (Command.cells a0)))] (.st 2 [(6, qj a0.Kind), (5, qp 1 0)] [] (.bind (og := F53 n a0.Kind 1 8) ⟨some 7, POp.call false [[], [], []] 53 [6, Operand.const (Value.int IntKind.i64 1), Operand.const (Value.int IntKind.i64 8)], none, [(6, Hint.imm)]⟩ (fun r1 => [(7, qb r1)]) (fun r1 => []) (by kernel_rfl) (fun r1 hr => pOp_eff (by kernel_rfl) (by kernel_rfl) (eff_call (ARGS := [qj a0.Kind, qj 1, qj 8]) (by kernel_rfl) (args_clean (by kernel_rfl) (args_clean (by kernel_rfl) (args_clean (by kernel_rfl) args_nil))) (F53_ok n a0.Kind 1 8 r1 hr) (by kernel_rfl))) (fun r1 => ?_)))
  refine SimI.rn 1 [(8, qb r1)] [] (.split 8 r1 (by kernel_rfl) ?_ ?_)
  · refine SimI.rn 2 [(10, qj a0.Client), (9, qp 1 16)] [] (.bind (og := F53 n a0.Client 0 3) ⟨some 11, POp.call false [[], [], []] 53 [10, Operand.const (Value.int IntKind.i64 0), Operand.const (Value.int IntKind.i64 3)], some (8, true), [(10, Hint.imm)]⟩ (fun r2 => [(11, qb r2)]) (fun r2 => []) (by kernel_rfl) (fun r2 hr => pOp_eff (by kernel_rfl) (by kernel_rfl) (eff_call (ARGS := [qj a0.Client, qj 0, qj 3]) (by kernel_rfl) (args_clean (by kernel_rfl) (args_clean (by kernel_rfl) (args_clean (by kernel_rfl) args_nil))) (F53_ok n a0.Client 0 3 r2 hr) (by kernel_rfl))) (fun r2 => ?_))
    refine SimI.rn 2 [(13, qb r2), (12, qb r2)] [] (.split 13 r2 (by kernel_rfl) ?_ ?_)
    · refine SimI.rn 2 [(15, qj a0.Session), (14, qp 1 17)] [] (.bind (og := F53 n a0.Session 0 1000000) ⟨some 16, POp.call false [[], [], []] 53 [15, Operand.const (Value.int IntKind.i64 0), Operand.const (Value.int IntKind.i64 1000000)], some (13, true), [(15, Hint.imm)]⟩ (fun r3 => [(16, qb r3)]) (fun r3 => []) (by kernel_rfl) (fun r3 hr => pOp_eff (by kernel_rfl) (by kernel_rfl) (eff_call (ARGS := [qj a0.Session, qj 0, qj 1000000]) (by kernel_rfl) (args_clean (by kernel_rfl) (args_clean (by kernel_rfl) (args_clean (by kernel_rfl) args_nil))) (F53_ok n a0.Session 0 1000000 r3 hr) (by kernel_rfl))) (fun r3 => ?_))
      refine SimI.rn 2 [(18, qb r3), (17, qb r3)] [] (.split 18 r3 (by kernel_rfl) ?_ ?_)
      · refine SimI.rn 2 [(20, .agg (Command.cells a0)), (19, .agg (Command.cells a0))] [] (.bind (og := F54 n a0) ⟨some 21, POp.call false [[]] 54 [20], some (18, true), [(20, Hint.imm)]⟩ (fun r4 => [(21, .agg (Command.cells r4))]) (fun r4 => []) (by kernel_rfl) (fun r4 hr => pOp_eff (by kernel_rfl) (by kernel_rfl) (eff_call (ARGS := [.agg (Command.cells a0)]) (by kernel_rfl) (args_clean (by kernel_rfl) args_nil) (F54_ok n a0 r4 hr) (by kernel_rfl))) (fun r4 => ?_))
        refine SimI.step ⟨some 22, POp.prim (Prim.bin BinOp.eql 53 false false) [19, 21], some (18, true), [(19, Hint.imm), (21, Hint.imm)]⟩ [(22, qb (Command.eqb a0 r4))] [] (by kernel_rfl) (pOp_eff (by kernel_rfl) (by kernel_rfl) (eff_prim (by kernel_rfl) (Command_eql a0 r4 _ _))) (.rn 2 [(24, qb (Command.eqb a0 r4)), (23, qb (Command.eqb a0 r4))] [] (.split 24 (Command.eqb a0 r4) (by kernel_rfl) ?_ ?_))
        · refine SimI.rn 2 [(26, .agg [lj a0.At.X, lj a0.At.Y]), (25, qp 1 4)] [] (.bind (og := F55 n a0.At) ⟨some 27, POp.call false [[]] 55 [26], some (24, true), [(26, Hint.imm)]⟩ (fun r5 => [(27, qb r5)]) (fun r5 => []) (by kernel_rfl) (fun r5 hr => pOp_eff (by kernel_rfl) (by kernel_rfl) (eff_call (ARGS := [.agg [lj a0.At.X, lj a0.At.Y]]) (by kernel_rfl) (args_clean (by kernel_rfl) args_nil) (F55_ok n a0.At r5 hr) (by kernel_rfl))) (fun r5 => ?_))
          refine SimI.rn 2 [(29, qb r5), (28, qb r5)] [] (.split 29 r5 (by kernel_rfl) ?_ ?_)
          · refine SimI.rn 2 [(31, .agg (Rect.cells a0.Rect)), (30, qp 1 18)] [] (.bind (og := F56 n a0.Rect) ⟨some 32, POp.call false [[]] 56 [31], some (29, true), [(31, Hint.imm)]⟩ (fun r6 => [(32, qb r6)]) (fun r6 => []) (by kernel_rfl) (fun r6 hr => pOp_eff (by kernel_rfl) (by kernel_rfl) (eff_call (ARGS := [.agg (Rect.cells a0.Rect)]) (by kernel_rfl) (args_clean (by kernel_rfl) args_nil) (F56_ok n a0.Rect r6 hr) (by kernel_rfl))) (fun r6 => ?_))
            refine SimI.rn 2 [(34, qb r6), (33, qb r6)] [] (.split 34 r6 (by kernel_rfl) ?_ ?_)
            · refine SimI.rn 2 [(36, qj a0.ID), (35, qp 1 1)] [] (.bind (og := F53 n a0.ID 0 1000000) ⟨some 37, POp.call false [[], [], []] 53 [36, Operand.const (Value.int IntKind.i64 0), Operand.const (Value.int IntKind.i64 1000000)], some (34, true), [(36, Hint.imm)]⟩ (fun r7 => [(37, qb r7)]) (fun r7 => []) (by kernel_rfl) (fun r7 hr => pOp_eff (by kernel_rfl) (by kernel_rfl) (eff_call (ARGS := [qj a0.ID, qj 0, qj 1000000]) (by kernel_rfl) (args_clean (by kernel_rfl) (args_clean (by kernel_rfl) (args_clean (by kernel_rfl) args_nil))) (F53_ok n a0.ID 0 1000000 r7 hr) (by kernel_rfl))) (fun r7 => ?_))
              refine SimI.rn 2 [(39, qb r7), (38, qb r7)] [] (.split 39 r7 (by kernel_rfl) ?_ ?_)
              · refine SimI.rn 2 [(41, qj a0.Which), (40, qp 1 2)] [] (.bind (og := F53 n a0.Which (-1) 100) ⟨some 42, POp.call false [[], [], []] 53 [41, Operand.const (Value.int IntKind.i64 (-1)), Operand.const (Value.int IntKind.i64 100)], some (39, true), [(41, Hint.imm)]⟩ (fun r8 => [(42, qb r8)]) (fun r8 => []) (by kernel_rfl) (fun r8 hr => pOp_eff (by kernel_rfl) (by kernel_rfl) (eff_call (ARGS := [qj a0.Which, qj (-1), qj 100]) (by kernel_rfl) (args_clean (by kernel_rfl) (args_clean (by kernel_rfl) (args_clean (by kernel_rfl) args_nil))) (F53_ok n a0.Which (-1) 100 r8 hr) (by kernel_rfl))) (fun r8 => ?_))
                refine SimI.rn 2 [(44, qb r8), (43, qb r8)] [] (.split 44 r8 (by kernel_rfl) ?_ ?_)
                · refine SimI.rn 2 [(46, qj a0.To), (45, qp 1 3)] [] (.bind (og := F53 n a0.To (-1) 100) ⟨some 47, POp.call false [[], [], []] 53 [46, Operand.const (Value.int IntKind.i64 (-1)), Operand.const (Value.int IntKind.i64 100)], some (44, true), [(46, Hint.imm)]⟩ (fun r9 => [(47, qb r9)]) (fun r9 => []) (by kernel_rfl) (fun r9 hr => pOp_eff (by kernel_rfl) (by kernel_rfl) (eff_call (ARGS := [qj a0.To, qj (-1), qj 100]) (by kernel_rfl) (args_clean (by kernel_rfl) (args_clean (by kernel_rfl) (args_clean (by kernel_rfl) args_nil))) (F53_ok n a0.To (-1) 100 r9 hr) (by kernel_rfl))) (fun r9 => ?_))
                  refine SimI.rn 2 [(49, qb r9), (48, qb r9)] [] (.split 49 r9 (by kernel_rfl) ?_ ?_)
                  · refine SimI.rn 2 [(51, .agg [lj a0.Value.N, ls a0.Value.Text]), (50, qp 1 14)] [] (.bind (og := F57 n a0.Value) ⟨some 52, POp.call false [[]] 57 [51], some (49, true), [(51, Hint.imm)]⟩ (fun r10 => [(52, qb r10)]) (fun r10 => []) (by kernel_rfl) (fun r10 hr => pOp_eff (by kernel_rfl) (by kernel_rfl) (eff_call (ARGS := [.agg [lj a0.Value.N, ls a0.Value.Text]]) (by kernel_rfl) (args_clean (by kernel_rfl) args_nil) (F57_ok n a0.Value r10 hr) (by kernel_rfl))) (fun r10 => ?_))
                    refine SimI.rd 2 [(3, qb r10), (53, qb r10)] [] (.thenN (.pr [1, 3] [1] [] [(1, qp 1 0), (3, qb r10)] [(1, some (.cells (Command.cells a0)))] ?_))
                    exact F27_j12_ok n a0 r10
                  · refine SimI.rd 5 [(3, qb false), (53, qb false), (52, tz), (51, tz), (50, tz)] [] (.thenN (.pr [1, 3] [1] [] [(1, qp 1 0), (3, qb false)] [(1, some (.cells (Command.cells a0)))] ?_))
                    exact F27_j12_ok n a0 false
                · refine SimI.rd 10 [(3, qb false), (53, qb false), (52, tz), (51, tz), (50, tz), (49, qb false), (48, qb false), (47, tz), (46, tz), (45, tz)] [] (.thenN (.pr [1, 3] [1] [] [(1, qp 1 0), (3, qb false)] [(1, some (.cells (Command.cells a0)))] ?_))
                  exact F27_j12_ok n a0 false
              · refine SimI.rd 15 [(3, qb false), (53, qb false), (52, tz), (51, tz), (50, tz), (49, qb false), (48, qb false), (47, tz), (46, tz), (45, tz), (44, qb false), (43, qb false), (42, tz), (41, tz), (40, tz)] [] (.thenN (.pr [1, 3] [1] [] [(1, qp 1 0), (3, qb false)] [(1, some (.cells (Command.cells a0)))] ?_))
                exact F27_j12_ok n a0 false
            · refine SimI.rd 20 [(3, qb false), (53, qb false), (52, tz), (51, tz), (50, tz), (49, qb false), (48, qb false), (47, tz), (46, tz), (45, tz), (44, qb false), (43, qb false), (42, tz), (41, tz), (40, tz), (39, qb false), (38, qb false), (37, tz), (36, tz), (35, tz)] [] (.thenN (.pr [1, 3] [1] [] [(1, qp 1 0), (3, qb false)] [(1, some (.cells (Command.cells a0)))] ?_))
              exact F27_j12_ok n a0 false
          · refine SimI.rd 25 [(3, qb false), (53, qb false), (52, tz), (51, tz), (50, tz), (49, qb false), (48, qb false), (47, tz), (46, tz), (45, tz), (44, qb false), (43, qb false), (42, tz), (41, tz), (40, tz), (39, qb false), (38, qb false), (37, tz), (36, tz), (35, tz), (34, qb false), (33, qb false), (32, tz), (31, tz), (30, tz)] [] (.thenN (.pr [1, 3] [1] [] [(1, qp 1 0), (3, qb false)] [(1, some (.cells (Command.cells a0)))] ?_))
            exact F27_j12_ok n a0 false
        · refine SimI.rd 30 [(3, qb false), (53, qb false), (52, tz), (51, tz), (50, tz), (49, qb false), (48, qb false), (47, tz), (46, tz), (45, tz), (44, qb false), (43, qb false), (42, tz), (41, tz), (40, tz), (39, qb false), (38, qb false), (37, tz), (36, tz), (35, tz), (34, qb false), (33, qb false), (32, tz), (31, tz), (30, tz), (29, qb false), (28, qb false), (27, tz), (26, tz), (25, tz)] [] (.thenN (.pr [1, 3] [1] [] [(1, qp 1 0), (3, qb false)] [(1, some (.cells (Command.cells a0)))] ?_))
          exact F27_j12_ok n a0 false
      · refine SimI.rd 36 [(3, qb false), (53, qb false), (52, tz), (51, tz), (50, tz), (49, qb false), (48, qb false), (47, tz), (46, tz), (45, tz), (44, qb false), (43, qb false), (42, tz), (41, tz), (40, tz), (39, qb false), (38, qb false), (37, tz), (36, tz), (35, tz), (34, qb false), (33, qb false), (32, tz), (31, tz), (30, tz), (29, qb false), (28, qb false), (27, tz), (26, tz), (25, tz), (24, qb false), (23, qb false), (22, tz), (21, tz), (20, tz), (19, tz)] [] (.thenN (.pr [1, 3] [1] [] [(1, qp 1 0), (3, qb false)] [(1, some (.cells (Command.cells a0)))] ?_))
        exact F27_j12_ok n a0 false
    · refine SimI.rd 41 [(3, qb false), (53, qb false), (52, tz), (51, tz), (50, tz), (49, qb false), (48, qb false), (47, tz), (46, tz), (45, tz), (44, qb false), (43, qb false), (42, tz), (41, tz), (40, tz), (39, qb false), (38, qb false), (37, tz), (36, tz), (35, tz), (34, qb false), (33, qb false), (32, tz), (31, tz), (30, tz), (29, qb false), (28, qb false), (27, tz), (26, tz), (25, tz), (24, qb false), (23, qb false), (22, tz), (21, tz), (20, tz), (19, tz), (18, qb false), (17, qb false), (16, tz), (15, tz), (14, tz)] [] (.thenN (.pr [1, 3] [1] [] [(1, qp 1 0), (3, qb false)] [(1, some (.cells (Command.cells a0)))] ?_))
      exact F27_j12_ok n a0 false
  · refine SimI.rd 46 [(3, qb false), (53, qb false), (52, tz), (51, tz), (50, tz), (49, qb false), (48, qb false), (47, tz), (46, tz), (45, tz), (44, qb false), (43, qb false), (42, tz), (41, tz), (40, tz), (39, qb false), (38, qb false), (37, tz), (36, tz), (35, tz), (34, qb false), (33, qb false), (32, tz), (31, tz), (30, tz), (29, qb false), (28, qb false), (27, tz), (26, tz), (25, tz), (24, qb false), (23, qb false), (22, tz), (21, tz), (20, tz), (19, tz), (18, qb false), (17, qb false), (16, tz), (15, tz), (14, tz), (13, qb false), (12, qb false), (11, tz), (10, tz), (9, tz)] [] (.thenN (.pr [1, 3] [1] [] [(1, qp 1 0), (3, qb false)] [(1, some (.cells (Command.cells a0)))] ?_))
    exact F27_j12_ok n a0 false


-- 28: vedette/vedetteref10.Watches
def F28_e : Bool → PV × List Ob := fun r => (.one (lb r), [])
def F28 (n : Nat) (a0 : Command) : Option Bool :=
  (F53 n a0.Kind 6 8).bind fun (r1 : Bool) =>
  some r1
theorem F28_ok (n : Nat) (a0 : Command) : ∀ r, F28 n a0 = some r → D 28 [.agg (Command.cells a0)] [] = some (F28_e r) := by
  refine fn_to (D := D) (n := n + 8) (nt := 6) (rs := pc28_r) (c := p28c5) (L := [(0, .agg (Command.cells a0))]) (M := []) (k := 0) rfl rfl rfl rfl rfl rfl rfl ?_
  unfold F28
  refine Sim.sr 2 [(2, qb false), (1, qp 1 0)] [(1, some (.cells (Command.cells a0)))] (.st 2 [(4, qj a0.Kind), (3, qp 1 0)] [] (.cl 5 true [[], [], []] 53 [4, Operand.const (Value.int IntKind.i64 6), Operand.const (Value.int IntKind.i64 8)] none (fun r1 => qb r1) [qj a0.Kind, qj 6, qj 8] (F53_ok n a0.Kind 6 8) (fun r1 => ?_)))
  exact SimI.rd 1 [(2, qb r1)] [] (.thenN (.ret .fn))


-- 59: vedette/vedetteref3.Weave
def F59_e : Int → PV × List Ob := fun r => (.one (li .u32 r), [])
def F59_l7 (n : Nat) (a0 : Int) (a1 : Int) : Nat → Int → Int → Option Int
  | 0, _, _ => none
  | m + 1, i5, i6 =>
    if decide (i6 < 16) then
      if ¬ (IntKind.wrap .u64 i6 < 0) then
        if ¬ (IntKind.wrap .u64 (IntKind.wrap .i64 (2 * i6)) < 0) then
          if ¬ (IntKind.wrap .u64 i6 < 0) then
            if ¬ (IntKind.wrap .u64 (IntKind.wrap .i64 (IntKind.wrap .i64 (2 * i6) + 1)) < 0) then
              (F59_l7 n a0 a1 m) (bitsI .or .u32 (bitsI .or .u32 i5 (shlI .u32 (IntKind.wrap .u32 (bitsI .and .u16 (shrI .u16 a0 (IntKind.wrap .u64 i6)) 1)) (IntKind.wrap .u64 (IntKind.wrap .i64 (2 * i6))))) (shlI .u32 (IntKind.wrap .u32 (bitsI .and .u16 (shrI .u16 a1 (IntKind.wrap .u64 i6)) 1)) (IntKind.wrap .u64 (IntKind.wrap .i64 (IntKind.wrap .i64 (2 * i6) + 1))))) (IntKind.wrap .i64 (i6 + 1))
            else none
          else none
        else none
      else none
    else
      some i5
theorem F59_l7_ok (n : Nat) (a0 : Int) (a1 : Int) : ∀ (m : Nat) (i5 : Int) (i6 : Int), SimL Try.prog D (n + 8) m p59c13 [(0, .one (li .u16 a0)), (1, .one (li .u16 a1)), (5, .one (li .u32 i5)), (6, qj i6)] [] (F59_l7 n a0 a1 m i5 i6) (QB 0 (QT Try.prog D (n + 8) p59c19 (QF false pc59_r 0 F59_e))) := by
  intro m_l7
  induction m_l7 with
  | zero => intro i5 i6; exact SimL.zero'  rfl
  | succ m_l7 ih_l7 =>
    intro i5 i6
    refine SimL.succ ?_
    unfold F59_l7
    refine Sim.seq (.seq (.rg [(0, .one (li .u16 a0)), (1, .one (li .u16 a1)), (5, .one (li .u32 i5)), (6, qj i6)] [] (.rd 2 [(8, qb (decide (i6 < 16))), (7, qj i6)] [] (.thenN (.cond (decide (i6 < 16)) (by kernel_rfl) ?_ ?_)))))
    · refine Sim.skip (.thenN (.seq (.block (.region0 (.rn 4 [(14, .one (li .u64 (iw .u64 i6))), (13, qj i6), (12, .one (li .u16 a0)), (11, .one (li .u32 i5))] [] (.guard (c := ¬ (iw .u64 i6 < 0)) ⟨some 15, POp.prim (Prim.bin BinOp.shr 35 false false) [12, 14], none, []⟩ [(15, .one (li .u16 (shrI .u16 a0 (iw .u64 i6))))] [] (by kernel_rfl) (fun hc => pOp_eff (by kernel_rfl) (by kernel_rfl) (eff_prim (by kernel_rfl) (pr_shr _ _ _ .u16 .u64 a0 (iw .u64 i6) hc))) (.rn 5 [(20, .one (li .u64 (iw .u64 (iw .i64 (2 * i6))))), (19, qj (iw .i64 (2 * i6))), (18, qj i6), (17, .one (li .u32 (iw .u32 (bitsI .and .u16 (shrI .u16 a0 (iw .u64 i6)) 1)))), (16, .one (li .u16 (bitsI .and .u16 (shrI .u16 a0 (iw .u64 i6)) 1)))] [] (.guard (c := ¬ (iw .u64 (iw .i64 (2 * i6)) < 0)) ⟨some 21, POp.prim (Prim.bin BinOp.shl 101 false false) [17, 20], none, []⟩ [(21, .one (li .u32 (shlI .u32 (iw .u32 (bitsI .and .u16 (shrI .u16 a0 (iw .u64 i6)) 1)) (iw .u64 (iw .i64 (2 * i6))))))] [] (by kernel_rfl) (fun hc => pOp_eff (by kernel_rfl) (by kernel_rfl) (eff_prim (by kernel_rfl) (pr_shl _ _ _ .u32 .u64 (iw .u32 (bitsI .and .u16 (shrI .u16 a0 (iw .u64 i6)) 1)) (iw .u64 (iw .i64 (2 * i6))) hc))) (.rn 4 [(25, .one (li .u64 (iw .u64 i6))), (24, qj i6), (23, .one (li .u16 a1)), (22, .one (li .u32 (bitsI .or .u32 i5 (shlI .u32 (iw .u32 (bitsI .and .u16 (shrI .u16 a0 (iw .u64 i6)) 1)) (iw .u64 (iw .i64 (2 * i6)))))))] [] (.guard (c := ¬ (iw .u64 i6 < 0)) ⟨some 26, POp.prim (Prim.bin BinOp.shr 35 false false) [23, 25], none, []⟩ [(26, .one (li .u16 (shrI .u16 a1 (iw .u64 i6))))] [] (by kernel_rfl) (fun hc => pOp_eff (by kernel_rfl) (by kernel_rfl) (eff_prim (by kernel_rfl) (pr_shr _ _ _ .u16 .u64 a1 (iw .u64 i6) hc))) (.rn 6 [(32, .one (li .u64 (iw .u64 (iw .i64 (iw .i64 (2 * i6) + 1))))), (31, qj (iw .i64 (iw .i64 (2 * i6) + 1))), (30, qj (iw .i64 (2 * i6))), (29, qj i6), (28, .one (li .u32 (iw .u32 (bitsI .and .u16 (shrI .u16 a1 (iw .u64 i6)) 1)))), (27, .one (li .u16 (bitsI .and .u16 (shrI .u16 a1 (iw .u64 i6)) 1)))] [] (.guard (c := ¬ (iw .u64 (iw .i64 (iw .i64 (2 * i6) + 1)) < 0)) ⟨some 33, POp.prim (Prim.bin BinOp.shl 101 false false) [28, 32], none, []⟩ [(33, .one (li .u32 (shlI .u32 (iw .u32 (bitsI .and .u16 (shrI .u16 a1 (iw .u64 i6)) 1)) (iw .u64 (iw .i64 (iw .i64 (2 * i6) + 1))))))] [] (by kernel_rfl) (fun hc => pOp_eff (by kernel_rfl) (by kernel_rfl) (eff_prim (by kernel_rfl) (pr_shl _ _ _ .u32 .u64 (iw .u32 (bitsI .and .u16 (shrI .u16 a1 (iw .u64 i6)) 1)) (iw .u64 (iw .i64 (iw .i64 (2 * i6) + 1))) hc))) (.rd 2 [(5, .one (li .u32 (bitsI .or .u32 (bitsI .or .u32 i5 (shlI .u32 (iw .u32 (bitsI .and .u16 (shrI .u16 a0 (iw .u64 i6)) 1)) (iw .u64 (iw .i64 (2 * i6))))) (shlI .u32 (iw .u32 (bitsI .and .u16 (shrI .u16 a1 (iw .u64 i6)) 1)) (iw .u64 (iw .i64 (iw .i64 (2 * i6) + 1))))))), (34, .one (li .u32 (bitsI .or .u32 (bitsI .or .u32 i5 (shlI .u32 (iw .u32 (bitsI .and .u16 (shrI .u16 a0 (iw .u64 i6)) 1)) (iw .u64 (iw .i64 (2 * i6))))) (shlI .u32 (iw .u32 (bitsI .and .u16 (shrI .u16 a1 (iw .u64 i6)) 1)) (iw .u64 (iw .i64 (iw .i64 (2 * i6) + 1)))))))] [] (.blockN (.thenN (.region0 (.rd 3 [(6, qj (iw .i64 (i6 + 1))), (10, qj (iw .i64 (i6 + 1))), (9, qj i6)] [] (.loopN (.pr [0, 1, 5, 6] [] [] [(0, .one (li .u16 a0)), (1, .one (li .u16 a1)), (5, .one (li .u32 (bitsI .or .u32 (bitsI .or .u32 i5 (shlI .u32 (iw .u32 (bitsI .and .u16 (shrI .u16 a0 (iw .u64 i6)) 1)) (iw .u64 (iw .i64 (2 * i6))))) (shlI .u32 (iw .u32 (bitsI .and .u16 (shrI .u16 a1 (iw .u64 i6)) 1)) (iw .u64 (iw .i64 (iw .i64 (2 * i6) + 1))))))), (6, qj (iw .i64 (i6 + 1)))] [] ?_)))))))))))))))))))
      exact ih_l7 (bitsI .or .u32 (bitsI .or .u32 i5 (shlI .u32 (iw .u32 (bitsI .and .u16 (shrI .u16 a0 (iw .u64 i6)) 1)) (iw .u64 (iw .i64 (2 * i6))))) (shlI .u32 (iw .u32 (bitsI .and .u16 (shrI .u16 a1 (iw .u64 i6)) 1)) (iw .u64 (iw .i64 (iw .i64 (2 * i6) + 1))))) (iw .i64 (i6 + 1))
    · exact Sim.exit (.thenX (.loopX (.blockX (.thenN (.sr 2 [(4, .one (li .u32 i5)), (35, .one (li .u32 i5))] [] (.ret .fn))))))

def F59 (n : Nat) (a0 : Int) (a1 : Int) : Option Int :=
  F59_l7 n a0 a1 (n + 8) 0 0
theorem F59_ok (n : Nat) (a0 : Int) (a1 : Int) : ∀ r, F59 n a0 a1 = some r → D 59 [.one (li .u16 a0), .one (li .u16 a1)] [] = some (F59_e r) := by
  refine fn_to (D := D) (n := n + 8) (nt := 36) (rs := pc59_r) (c := p59c22) (L := [(0, .one (li .u16 a0)), (1, .one (li .u16 a1))]) (M := []) (k := 0) rfl rfl rfl rfl rfl rfl rfl ?_
  unfold F59
  refine Sim.sr 1 [(4, .one (li .u32 0))] [] (.sr 1 [(5, .one (li .u32 0))] [] (.seq (.sr 1 [(6, qj 0)] [] (.block (.loop (.pr [0, 1, 5, 6] [] [] [(0, .one (li .u16 a0)), (1, .one (li .u16 a1)), (5, .one (li .u32 0)), (6, qj 0)] [] ?_))))))
  exact F59_l7_ok n a0 a1 (n + 8) 0 0


-- 29: vedette/vedetteref3.Cell
def F29_e : (Int × Int) → PV × List Ob := fun r => (.tup [.one (li .i64 r.1), .one (li .i64 r.2)], [])
def F29 (n : Nat) (a0 : Point) : Option (Int × Int) :=
  (F58 n a0).bind fun (r1 : Bool) =>
  if !(r1) then
    some (0, 14)
  else
    (F59 n (IntKind.wrap .u16 (IntKind.wrap .i64 (Int.tdiv a0.X 16))) (IntKind.wrap .u16 (IntKind.wrap .i64 (Int.tdiv a0.Y 16)))).bind fun (r2 : Int) =>
    some (IntKind.wrap .i64 r2, 0)
theorem F29_ok (n : Nat) (a0 : Point) : ∀ r, F29 n a0 = some r → D 29 [.agg [li .i64 a0.X, li .i64 a0.Y]] [] = some (F29_e r) := by
  refine fn_to (D := D) (n := n + 8) (nt := 17) (rs := pc29_r) (c := p29c13) (L := [(0, .agg [lj a0.X, lj a0.Y])]) (M := []) (k := 0) rfl rfl rfl rfl rfl rfl rfl ?_
  unfold F29
  refine Sim.sr 3 [(3, qj 0), (2, qj 0), (1, qp 1 0)] [(1, some (.cells [lj a0.X, lj a0.Y]))] (.seq (.st 1 [(4, .agg [lj a0.X, lj a0.Y])] [] (.cl 5 true [[]] 58 [4] none (fun r1 => qb r1) [.agg [lj a0.X, lj a0.Y]] (F58_ok n a0) (fun r1 => ?_))))
  refine SimI.rd 1 [(6, qb (!(r1)))] [] (.thenN (.cond (!(r1)) (by kernel_rfl) ?_ ?_))
  · exact Sim.sr 2 [(3, qj 14), (2, qj 0)] [] (.ret (.thenR .fn))
  · refine Sim.skip (.thenN (.st 8 [(14, .one (li .u16 (iw .u16 (iw .i64 (Int.tdiv a0.Y 16))))), (13, qj (iw .i64 (Int.tdiv a0.Y 16))), (12, qj a0.Y), (11, qp 1 1), (10, .one (li .u16 (iw .u16 (iw .i64 (Int.tdiv a0.X 16))))), (9, qj (iw .i64 (Int.tdiv a0.X 16))), (8, qj a0.X), (7, qp 1 0)] [] (.cl 15 true [[], []] 59 [10, 14] none (fun r2 => .one (li .u32 r2)) [.one (li .u16 (iw .u16 (iw .i64 (Int.tdiv a0.X 16)))), .one (li .u16 (iw .u16 (iw .i64 (Int.tdiv a0.Y 16))))] (F59_ok n (iw .u16 (iw .i64 (Int.tdiv a0.X 16))) (iw .u16 (iw .i64 (Int.tdiv a0.Y 16)))) (fun r2 => ?_))))
    exact SimI.rd 3 [(3, qj 0), (2, qj (iw .i64 r2)), (16, qj (iw .i64 r2))] [] (.thenN (.ret .fn))


-- 30: vedette/vedetteref17.handed
def F30_e : Bool → PV × List Ob := fun r => (.one (lb r), [])
def F30_l4 (n : Nat) (a0 : (List Hand)) (a1 : Int) : Nat → Int → Option Bool
  | 0, _ => none
  | m + 1, i3 =>
    if decide (i3 < ((a0).length : Int)) then
      (ix a0 i3).bind fun (x5 : Hand) =>
      if x5.Cell == a1 then
        some true
      else
        (F30_l4 n a0 a1 m) (IntKind.wrap .i64 (i3 + 1))
    else
      some false
theorem F30_l4_ok (n : Nat) (a0 : (List Hand)) (a1 : Int) : ∀ (m : Nat) (i3 : Int), SimL Try.prog D (n + 8) m p30c18 [(0, .one (vw Hand.cod a0)), (1, qj a1), (5, qj i3)] [] (F30_l4 n a0 a1 m i3) (QB 0 (QT Try.prog D (n + 8) p30c24 (QF false pc30_r 0 F30_e))) := by
  intro m_l4
  induction m_l4 with
  | zero => intro i3; exact SimL.zero'  rfl
  | succ m_l4 ih_l4 =>
    intro i3
    refine SimL.succ ?_
    unfold F30_l4
    refine Sim.seq (.seq (.rg [(0, .one (vw Hand.cod a0)), (1, qj a1), (5, qj i3)] [] (.rd 4 [(9, qb (decide (i3 < ((a0).length : Int)))), (8, qj ((a0).length : Int)), (7, .one (vw Hand.cod a0)), (6, qj i3)] [] (.thenN (.cond (decide (i3 < ((a0).length : Int))) (by kernel_rfl) ?_ ?_)))))
    · refine Sim.skip (.thenN (.seq (.block (.st 2 [(13, qj i3), (12, .one (vw Hand.cod a0))] [] (.bind (og := ix a0 i3) ⟨some 14, POp.iaddrS 2 (Operand.tmp 12) (Operand.tmp 13), none, []⟩ (fun x5 => [(14, .one (.eptr (Hand.cod.enc x5) 0))]) (fun x5 => []) (by kernel_rfl) (fun x5 hr => pOp_eff (by kernel_rfl) (by kernel_rfl) (eff_idx (c := Hand.cod) (l := a0) (k := .i64) (n := i3) (by kernel_rfl) (by kernel_rfl) (by kernel_rfl) hr)) (fun x5 => ?_))))))
      refine SimI.rd 4 [(18, qb (x5.Cell == a1)), (17, qj a1), (16, qj x5.Cell), (15, .one (.eptr (Hand.cod.enc x5) 0))] [] (.thenN (.cond (x5.Cell == a1) (by kernel_rfl) ?_ ?_))
      · exact Sim.sr 1 [(4, qb true)] [] (.ret (.blockR (.thenR (.loopR (.blockR (.thenR .fn))))))
      · refine Sim.skip (.blockN (.thenN (.region0 (.rd 3 [(5, qj (iw .i64 (i3 + 1))), (11, qj (iw .i64 (i3 + 1))), (10, qj i3)] [] (.loopN (.pr [0, 1, 5] [] [] [(0, .one (vw Hand.cod a0)), (1, qj a1), (5, qj (iw .i64 (i3 + 1)))] [] ?_))))))
        exact ih_l4 (iw .i64 (i3 + 1))
    · exact Sim.exit (.thenX (.loopX (.blockX (.thenN (.sr 1 [(4, qb false)] [] (.ret .fn))))))

def F30 (n : Nat) (a0 : (List Hand)) (a1 : Int) : Option Bool :=
  F30_l4 n a0 a1 (n + 8) 0
theorem F30_ok (n : Nat) (a0 : (List Hand)) (a1 : Int) : ∀ r, F30 n a0 a1 = some r → D 30 [.one (vw Hand.cod a0), .one (li .i64 a1)] [] = some (F30_e r) := by
  refine fn_to (D := D) (n := n + 8) (nt := 19) (rs := pc30_r) (c := p30c26) (L := [(0, .one (vw Hand.cod a0)), (1, qj a1)]) (M := []) (k := 0) rfl rfl rfl rfl rfl rfl rfl ?_
  unfold F30
  refine Sim.sr 1 [(4, qb false)] [] (.seq (.sr 1 [(5, qj 0)] [] (.block (.loop (.pr [0, 1, 5] [] [] [(0, .one (vw Hand.cod a0)), (1, qj a1), (5, qj 0)] [] ?_)))))
  exact F30_l4_ok n a0 a1 (n + 8) 0


-- 10: vedette/vedetteref17.Is
def F10_e : Bool → PV × List Ob := fun r => (.one (lb r), [])
def F10_l28 (n : Nat) (a0 : Note) : Nat → Int → Option Bool
  | 0, _ => none
  | m + 1, i27 =>
    if decide (i27 < ((a0.Moved).length : Int)) then
      (ix a0.Moved i27).bind fun (x29 : Thing) =>
      (F29 n x29.At).bind fun (r30 : (Int × Int)) =>
      (F30 n a0.Hands r30.1).bind fun (r31 : Bool) =>
      if r31 then
        some false
      else
        (F10_l28 n a0 m) (IntKind.wrap .i64 (i27 + 1))
    else
      some true
theorem F10_l28_ok (n : Nat) (a0 : Note) : ∀ (m : Nat) (i27 : Int), SimL Try.prog D (n + 8) m p10c92 [(2, qp 2 0), (12, qj i27)] [(2, some (.cells [lj a0.From, lj a0.Beat, vw Thing.cod a0.Moved, vw Hand.cod a0.Hands, vw Thing.cod a0.Given, vw Command.cod a0.Watch]))] (F10_l28 n a0 m i27) (QB 6 (QT Try.prog D (n + 8) p10c98 (QF false pc10_r 0 F10_e))) := by
  intro m_l28
  induction m_l28 with
  | zero => intro i27; exact SimL.zero'  rfl
  | succ m_l28 ih_l28 =>
    intro i27
    refine SimL.succ ?_
    unfold F10_l28
    refine Sim.seq (.seq (.rg [(2, qp 2 0), (12, qj i27)] [(2, some (.cells (w0 a0)))] (.rd 5 [(159, qb (decide (i27 < ((a0.Moved).length : Int)))), (158, qj ((a0.Moved).length : Int)), (157, .one (vw Thing.cod a0.Moved)), (156, qp 2 2), (155, qj i27)] [] (.thenN (.cond (decide (i27 < ((a0.Moved).length : Int))) (by kernel_rfl) ?_ ?_)))))
    · refine Sim.skip (.thenN (.seq (.block (.st 3 [(165, qj i27), (164, .one (vw Thing.cod a0.Moved)), (163, qp 2 2)] [] (.bind (og := ix a0.Moved i27) ⟨some 166, POp.iaddrS 11 (Operand.tmp 164) (Operand.tmp 165), none, []⟩ (fun x29 => [(166, .one (.eptr (Thing.cod.enc x29) 0))]) (fun x29 => []) (by kernel_rfl) (fun x29 hr => pOp_eff (by kernel_rfl) (by kernel_rfl) (eff_idx (c := Thing.cod) (l := a0.Moved) (k := .i64) (n := i27) (by kernel_rfl) (by kernel_rfl) (by kernel_rfl) hr)) (fun x29 => ?_))))))
      refine SimI.rn 2 [(168, .agg [lj x29.At.X, lj x29.At.Y]), (167, .one (.eptr (Thing.cod.enc x29) 1))] [] (.cl 169 true [[]] 29 [168] none (fun r30 => .tup [qj r30.1, qj r30.2]) [.agg [lj x29.At.X, lj x29.At.Y]] (F29_ok n x29.At) (fun r30 => ?_))
      refine SimI.rd 5 [(14, qj r30.2), (13, qj r30.1), (171, qj r30.2), (170, qj r30.1), (162, .tup [qj r30.1, qj r30.2])] [] (.thenN (.st 3 [(174, qj r30.1), (173, .one (vw Hand.cod a0.Hands)), (172, qp 2 3)] [] (.cl 175 true [[(0, 2)], []] 30 [173, 174] none (fun r31 => qb r31) [.one (vw Hand.cod a0.Hands), qj r30.1] (F30_ok n a0.Hands r30.1) (fun r31 => ?_))))
      refine SimI.dn (.thenN (.cond r31 (by kernel_rfl) ?_ ?_))
      · exact Sim.sr 1 [(4, qb false)] [] (.ret (.blockR (.thenR (.loopR (.blockR (.thenR .fn))))))
      · refine Sim.skip (.blockN (.thenN (.region0 (.rd 3 [(12, qj (iw .i64 (i27 + 1))), (161, qj (iw .i64 (i27 + 1))), (160, qj i27)] [] (.loopN (.pr [2, 12] [2] [] [(2, qp 2 0), (12, qj (iw .i64 (i27 + 1)))] [(2, some (.cells (w0 a0)))] ?_))))))
        exact ih_l28 (iw .i64 (i27 + 1))
    · exact Sim.exit (.thenX (.loopX (.blockX (.thenN (.sr 1 [(4, qb true)] [] (.ret .fn))))))

def F10_l21 (n : Nat) (a0 : Note) : Nat → Int → Option Bool
  | 0, _ => none
  | m + 1, i20 =>
    if decide (i20 < ((a0.Given).length : Int)) then
      (ix a0.Given i20).bind fun (x22 : Thing) =>
      (F29 n x22.At).bind fun (r23 : (Int × Int)) =>
      (F30 n a0.Hands r23.1).bind fun (r24 : Bool) =>
      if !(r24) then
        some false
      else
        (F10_l21 n a0 m) (IntKind.wrap .i64 (i20 + 1))
    else
      F10_l28 n a0 (n + 8) 0
theorem F10_l21_ok (n : Nat) (a0 : Note) : ∀ (m : Nat) (i20 : Int), SimL Try.prog D (n + 8) m p10c70 [(2, qp 2 0), (9, qj i20)] [(2, some (.cells [lj a0.From, lj a0.Beat, vw Thing.cod a0.Moved, vw Hand.cod a0.Hands, vw Thing.cod a0.Given, vw Command.cod a0.Watch]))] (F10_l21 n a0 m i20) (QB 4 (QT Try.prog D (n + 8) p10c99 (QF false pc10_r 0 F10_e))) := by
  intro m_l21
  induction m_l21 with
  | zero => intro i20; exact SimL.zero'  rfl
  | succ m_l21 ih_l21 =>
    intro i20
    refine SimL.succ ?_
    unfold F10_l21
    refine Sim.seq (.seq (.rg [(2, qp 2 0), (9, qj i20)] [(2, some (.cells (w0 a0)))] (.rd 5 [(137, qb (decide (i20 < ((a0.Given).length : Int)))), (136, qj ((a0.Given).length : Int)), (135, .one (vw Thing.cod a0.Given)), (134, qp 2 4), (133, qj i20)] [] (.thenN (.cond (decide (i20 < ((a0.Given).length : Int))) (by kernel_rfl) ?_ ?_)))))
    · refine Sim.skip (.thenN (.seq (.block (.st 3 [(143, qj i20), (142, .one (vw Thing.cod a0.Given)), (141, qp 2 4)] [] (.bind (og := ix a0.Given i20) ⟨some 144, POp.iaddrS 11 (Operand.tmp 142) (Operand.tmp 143), none, []⟩ (fun x22 => [(144, .one (.eptr (Thing.cod.enc x22) 0))]) (fun x22 => []) (by kernel_rfl) (fun x22 hr => pOp_eff (by kernel_rfl) (by kernel_rfl) (eff_idx (c := Thing.cod) (l := a0.Given) (k := .i64) (n := i20) (by kernel_rfl) (by kernel_rfl) (by kernel_rfl) hr)) (fun x22 => ?_))))))
      refine SimI.rn 2 [(146, .agg [lj x22.At.X, lj x22.At.Y]), (145, .one (.eptr (Thing.cod.enc x22) 1))] [] (.cl 147 true [[]] 29 [146] none (fun r23 => .tup [qj r23.1, qj r23.2]) [.agg [lj x22.At.X, lj x22.At.Y]] (F29_ok n x22.At) (fun r23 => ?_))
      refine SimI.rd 5 [(11, qj r23.2), (10, qj r23.1), (149, qj r23.2), (148, qj r23.1), (140, .tup [qj r23.1, qj r23.2])] [] (.thenN (.st 3 [(152, qj r23.1), (151, .one (vw Hand.cod a0.Hands)), (150, qp 2 3)] [] (.cl 153 true [[(0, 2)], []] 30 [151, 152] none (fun r24 => qb r24) [.one (vw Hand.cod a0.Hands), qj r23.1] (F30_ok n a0.Hands r23.1) (fun r24 => ?_))))
      refine SimI.rd 1 [(154, qb (!(r24)))] [] (.thenN (.cond (!(r24)) (by kernel_rfl) ?_ ?_))
      · exact Sim.sr 1 [(4, qb false)] [] (.ret (.blockR (.thenR (.loopR (.blockR (.thenR .fn))))))
      · refine Sim.skip (.blockN (.thenN (.region0 (.rd 3 [(9, qj (iw .i64 (i20 + 1))), (139, qj (iw .i64 (i20 + 1))), (138, qj i20)] [] (.loopN (.pr [2, 9] [2] [] [(2, qp 2 0), (9, qj (iw .i64 (i20 + 1)))] [(2, some (.cells (w0 a0)))] ?_))))))
        exact ih_l21 (iw .i64 (i20 + 1))
    · refine Sim.exit (.thenX (.loopX (.blockX (.thenN (.seq (.sr 1 [(12, qj 0)] [] (.block (.loop (.pr [2, 12] [2] [] [(2, qp 2 0), (12, qj 0)] [(2, some (.cells (w0 a0)))] ?_)))))))))
      exact F10_l28_ok n a0 (n + 8) 0

def F10_l13 (n : Nat) (a0 : Note) : Nat → Int → Option Bool
  | 0, _ => none
  | m + 1, i12 =>
    if decide (i12 < ((a0.Watch).length : Int)) then
      (ix a0.Watch i12).bind fun (x14 : Command) =>
      (F27 n x14).bind fun (r15 : Bool) =>
      if !(r15) then
        some false
      else
        (ix a0.Watch i12).bind fun (x16 : Command) =>
        (F28 n x16).bind fun (r17 : Bool) =>
        if !(r17) then
          some false
        else
          (F10_l13 n a0 m) (IntKind.wrap .i64 (i12 + 1))
    else
      F10_l21 n a0 (n + 8) 0
theorem F10_l13_ok (n : Nat) (a0 : Note) : ∀ (m : Nat) (i12 : Int), SimL Try.prog D (n + 8) m p10c48 [(2, qp 2 0), (8, qj i12)] [(2, some (.cells [lj a0.From, lj a0.Beat, vw Thing.cod a0.Moved, vw Hand.cod a0.Hands, vw Thing.cod a0.Given, vw Command.cod a0.Watch]))] (F10_l13 n a0 m i12) (QB 2 (QT Try.prog D (n + 8) p10c100 (QF false pc10_r 0 F10_e))) := by
  intro m_l13
  induction m_l13 with
  | zero => intro i12; exact SimL.zero'  rfl
  | succ m_l13 ih_l13 =>
    intro i12
    refine SimL.succ ?_
    unfold F10_l13
    refine Sim.seq (.seq (.rg [(2, qp 2 0), (8, qj i12)] [(2, some (.cells (w0 a0)))] (.rd 5 [(114, qb (decide (i12 < ((a0.Watch).length : Int)))), (113, qj ((a0.Watch).length : Int)), (112, .one (vw Command.cod a0.Watch)), (111, qp 2 5), (110, qj i12)] [] (.thenN (.cond (decide (i12 < ((a0.Watch).length : Int))) (by kernel_rfl) ?_ ?_)))))
    · refine Sim.skip (.thenN (.seq (.block (.st 3 [(119, qj i12), (118, .one (vw Command.cod a0.Watch)), (117, qp 2 5)] [] (.bind (og := ix a0.Watch i12) ⟨some 120, POp.iaddrS 22 (Operand.tmp 118) (Operand.tmp 119), none, []⟩ (fun x14 => [(120, .one (.eptr (Command.cod.enc x14) 0))]) (fun x14 => []) (by kernel_rfl) (fun x14 hr => pOp_eff (by kernel_rfl) (by kernel_rfl) (eff_idx (c := Command.cod) (l := a0.Watch) (k := .i64) (n := i12) (by kernel_rfl) (by kernel_rfl) (by kernel_rfl) hr)) (fun x14 => ?_))))))
      refine SimI.rn 1 [(121, .agg (Command.cells x14))] [] (.cl 122 true [[]] 27 [121] none (fun r15 => qb r15) [.agg (Command.cells x14)] (F27_ok n x14) (fun r15 => ?_))
      refine SimI.rn 2 [(124, qb (!(r15))), (123, qb (!(r15)))] [] (.split 124 (!(r15)) (by kernel_rfl) ?_ ?_)
      · exact SimI.rd 8 [(132, qb true), (131, tz), (130, tz), (129, tz), (128, tz), (127, tz), (126, tz), (125, tz)] [] (.thenN (.condT (by kernel_rfl) (.sr 1 [(4, qb false)] [] (.ret (.blockR (.thenR (.loopR (.blockR (.thenR .fn)))))))))
      · refine SimI.rn 3 [(127, qj i12), (126, .one (vw Command.cod a0.Watch)), (125, qp 2 5)] [] (.bind (og := ix a0.Watch i12) ⟨some 128, POp.iaddrS 22 (Operand.tmp 126) (Operand.tmp 127), some (124, false), []⟩ (fun x16 => [(128, .one (.eptr (Command.cod.enc x16) 0))]) (fun x16 => []) (by kernel_rfl) (fun x16 hr => pOp_eff (by kernel_rfl) (by kernel_rfl) (eff_idx (c := Command.cod) (l := a0.Watch) (k := .i64) (n := i12) (by kernel_rfl) (by kernel_rfl) (by kernel_rfl) hr)) (fun x16 => ?_))
        refine SimI.rn 1 [(129, .agg (Command.cells x16))] [] (.cl 130 true [[]] 28 [129] (some (124, false)) (fun r17 => qb r17) [.agg (Command.cells x16)] (F28_ok n x16) (fun r17 => ?_))
        refine SimI.rd 2 [(132, qb (!(r17))), (131, qb (!(r17)))] [] (.thenN (.cond (!(r17)) (by kernel_rfl) ?_ ?_))
        · exact Sim.sr 1 [(4, qb false)] [] (.ret (.blockR (.thenR (.loopR (.blockR (.thenR .fn))))))
        · refine Sim.skip (.blockN (.thenN (.region0 (.rd 3 [(8, qj (iw .i64 (i12 + 1))), (116, qj (iw .i64 (i12 + 1))), (115, qj i12)] [] (.loopN (.pr [2, 8] [2] [] [(2, qp 2 0), (8, qj (iw .i64 (i12 + 1)))] [(2, some (.cells (w0 a0)))] ?_))))))
          exact ih_l13 (iw .i64 (i12 + 1))
    · refine Sim.exit (.thenX (.loopX (.blockX (.thenN (.seq (.sr 1 [(9, qj 0)] [] (.block (.loop (.pr [2, 9] [2] [] [(2, qp 2 0), (9, qj 0)] [(2, some (.cells (w0 a0)))] ?_)))))))))
      exact F10_l21_ok n a0 (n + 8) 0

def F10_l6 (n : Nat) (a0 : Note) (a1 : Int) : Nat → Int → Option Bool
  | 0, _ => none
  | m + 1, i5 =>
    if decide (i5 < ((a0.Hands).length : Int)) then
      (ix a0.Hands i5).bind fun (x7 : Hand) =>
      (F26 n x7.Cell).bind fun (r8 : Bool) =>
      if !(r8) then
        some false
      else
        if decide (x7.To < 0) then
          some false
        else
          if decide (imin a1 4 ≤ x7.To) then
            some false
          else
            if x7.To == a0.From then
              some false
            else
              if decide ((0 : Int) < i5) then
                (ix a0.Hands (IntKind.wrap .i64 (i5 - 1))).bind fun (x9 : Hand) =>
                if decide (x7.Cell ≤ x9.Cell) then
                  some false
                else
                  (F10_l6 n a0 a1 m) (IntKind.wrap .i64 (i5 + 1))
              else
                (F10_l6 n a0 a1 m) (IntKind.wrap .i64 (i5 + 1))
    else
      F10_l13 n a0 (n + 8) 0
theorem F10_l6_ok (n : Nat) (a0 : Note) (a1 : Int) : ∀ (m : Nat) (i5 : Int), SimL Try.prog D (n + 8) m p10c28 [(2, qp 2 0), (5, qj (imin a1 4)), (6, qj i5)] [(2, some (.cells [lj a0.From, lj a0.Beat, vw Thing.cod a0.Moved, vw Hand.cod a0.Hands, vw Thing.cod a0.Given, vw Command.cod a0.Watch]))] (F10_l6 n a0 a1 m i5) (QB 0 (QT Try.prog D (n + 8) p10c101 (QF false pc10_r 0 F10_e))) := by
  intro m_l6
  induction m_l6 with
  | zero => intro i5; exact SimL.zero'  rfl
  | succ m_l6 ih_l6 =>
    intro i5
    refine SimL.succ ?_
    unfold F10_l6
    refine Sim.seq (.seq (.rg [(2, qp 2 0), (5, qj (imin a1 4)), (6, qj i5)] [(2, some (.cells (w0 a0)))] (.rd 5 [(64, qb (decide (i5 < ((a0.Hands).length : Int)))), (63, qj ((a0.Hands).length : Int)), (62, .one (vw Hand.cod a0.Hands)), (61, qp 2 3), (60, qj i5)] [] (.thenN (.cond (decide (i5 < ((a0.Hands).length : Int))) (by kernel_rfl) ?_ ?_)))))
    · refine Sim.skip (.thenN (.seq (.block (.st 3 [(69, qj i5), (68, .one (vw Hand.cod a0.Hands)), (67, qp 2 3)] [] (.bind (og := ix a0.Hands i5) ⟨some 70, POp.iaddrS 2 (Operand.tmp 68) (Operand.tmp 69), none, []⟩ (fun x7 => [(70, .one (.eptr (Hand.cod.enc x7) 0))]) (fun x7 => []) (by kernel_rfl) (fun x7 hr => pOp_eff (by kernel_rfl) (by kernel_rfl) (eff_idx (c := Hand.cod) (l := a0.Hands) (k := .i64) (n := i5) (by kernel_rfl) (by kernel_rfl) (by kernel_rfl) hr)) (fun x7 => ?_))))))
      refine SimI.rd 3 [(7, qp 7 0), (71, .agg [lj x7.Cell, lj x7.To])] [(7, some (.cells [lj x7.Cell, lj x7.To])), (7, some (.cells [lj 0, lj 0]))] (.thenN (.st 2 [(73, qj x7.Cell), (72, qp 7 0)] [] (.bind (og := F26 n x7.Cell) ⟨some 74, POp.call false [[]] 26 [73], none, [(73, Hint.imm)]⟩ (fun r8 => [(74, qb r8)]) (fun r8 => []) (by kernel_rfl) (fun r8 hr => pOp_eff (by kernel_rfl) (by kernel_rfl) (eff_call (ARGS := [qj x7.Cell]) (by kernel_rfl) (args_clean (by kernel_rfl) args_nil) (F26_ok n x7.Cell r8 hr) (by kernel_rfl))) (fun r8 => ?_))))
      refine SimI.rn 2 [(76, qb (!(r8))), (75, qb (!(r8)))] [] (.split 76 (!(r8)) (by kernel_rfl) ?_ ?_)
      · exact SimI.rd 33 [(109, qb true), (108, tz), (107, tz), (106, tz), (105, tz), (104, tz), (103, tz), (102, tz), (101, tz), (100, tz), (99, tz), (98, tz), (97, tz), (96, tz), (95, tz), (94, qb true), (93, qb true), (92, tz), (91, tz), (90, tz), (89, tz), (88, tz), (87, qb true), (86, qb true), (85, tz), (84, tz), (83, tz), (82, tz), (81, qb true), (80, qb true), (79, tz), (78, tz), (77, tz)] [] (.thenN (.condT (by kernel_rfl) (.sr 1 [(4, qb false)] [] (.ret (.blockR (.thenR (.loopR (.blockR (.thenR .fn)))))))))
      · refine SimI.rn 5 [(81, qb (decide (x7.To < 0))), (80, qb (decide (x7.To < 0))), (79, qb (decide (x7.To < 0))), (78, qj x7.To), (77, qp 7 1)] [] (.split 81 (decide (x7.To < 0)) (by kernel_rfl) ?_ ?_)
        · exact SimI.rd 28 [(109, qb true), (108, tz), (107, tz), (106, tz), (105, tz), (104, tz), (103, tz), (102, tz), (101, tz), (100, tz), (99, tz), (98, tz), (97, tz), (96, tz), (95, tz), (94, qb true), (93, qb true), (92, tz), (91, tz), (90, tz), (89, tz), (88, tz), (87, qb true), (86, qb true), (85, tz), (84, tz), (83, tz), (82, tz)] [] (.thenN (.condT (by kernel_rfl) (.sr 1 [(4, qb false)] [] (.ret (.blockR (.thenR (.loopR (.blockR (.thenR .fn)))))))))
        · refine SimI.rn 6 [(87, qb (decide (imin a1 4 ≤ x7.To))), (86, qb (decide (imin a1 4 ≤ x7.To))), (85, qb (decide (imin a1 4 ≤ x7.To))), (84, qj (imin a1 4)), (83, qj x7.To), (82, qp 7 1)] [] (.split 87 (decide (imin a1 4 ≤ x7.To)) (by kernel_rfl) ?_ ?_)
          · exact SimI.rd 22 [(109, qb true), (108, tz), (107, tz), (106, tz), (105, tz), (104, tz), (103, tz), (102, tz), (101, tz), (100, tz), (99, tz), (98, tz), (97, tz), (96, tz), (95, tz), (94, qb true), (93, qb true), (92, tz), (91, tz), (90, tz), (89, tz), (88, tz)] [] (.thenN (.condT (by kernel_rfl) (.sr 1 [(4, qb false)] [] (.ret (.blockR (.thenR (.loopR (.blockR (.thenR .fn)))))))))
          · refine SimI.rn 7 [(94, qb (x7.To == a0.From)), (93, qb (x7.To == a0.From)), (92, qb (x7.To == a0.From)), (91, qj a0.From), (90, qp 2 0), (89, qj x7.To), (88, qp 7 1)] [] (.split 94 (x7.To == a0.From) (by kernel_rfl) ?_ ?_)
            · exact SimI.rd 15 [(109, qb true), (108, tz), (107, tz), (106, tz), (105, tz), (104, tz), (103, tz), (102, tz), (101, tz), (100, tz), (99, tz), (98, tz), (97, tz), (96, tz), (95, tz)] [] (.thenN (.condT (by kernel_rfl) (.sr 1 [(4, qb false)] [] (.ret (.blockR (.thenR (.loopR (.blockR (.thenR .fn)))))))))
            · refine SimI.rn 3 [(97, qb (decide ((0 : Int) < i5))), (96, qb (decide ((0 : Int) < i5))), (95, qj i5)] [] (.split 97 (decide ((0 : Int) < i5)) (by kernel_rfl) ?_ ?_)
              · refine SimI.rn 6 [(103, qj (iw .i64 (i5 - 1))), (102, qj i5), (101, .one (vw Hand.cod a0.Hands)), (100, qp 2 3), (99, qj x7.Cell), (98, qp 7 0)] [] (.bind (og := ix a0.Hands (iw .i64 (i5 - 1))) ⟨some 104, POp.iaddrS 2 (Operand.tmp 101) (Operand.tmp 103), some (97, true), [(101, Hint.imm), (103, Hint.imm)]⟩ (fun x9 => [(104, .one (.eptr (Hand.cod.enc x9) 0))]) (fun x9 => []) (by kernel_rfl) (fun x9 hr => pOp_eff (by kernel_rfl) (by kernel_rfl) (eff_idx (c := Hand.cod) (l := a0.Hands) (k := .i64) (n := IntKind.wrap .i64 (i5 - 1)) (by kernel_rfl) (by kernel_rfl) (by kernel_rfl) hr)) (fun x9 => ?_))
                refine SimI.rd 5 [(109, qb (decide (x7.Cell ≤ x9.Cell))), (108, qb (decide (x7.Cell ≤ x9.Cell))), (107, qb (decide (x7.Cell ≤ x9.Cell))), (106, qj x9.Cell), (105, .one (.eptr (Hand.cod.enc x9) 0))] [] (.thenN (.cond (decide (x7.Cell ≤ x9.Cell)) (by kernel_rfl) ?_ ?_))
                · exact Sim.sr 1 [(4, qb false)] [] (.ret (.blockR (.thenR (.loopR (.blockR (.thenR .fn))))))
                · refine Sim.skip (.blockN (.thenN (.region0 (.rd 3 [(6, qj (iw .i64 (i5 + 1))), (66, qj (iw .i64 (i5 + 1))), (65, qj i5)] [] (.loopN (.pr [2, 5, 6] [2, 7] [] [(2, qp 2 0), (5, qj (imin a1 4)), (6, qj (iw .i64 (i5 + 1)))] [(2, some (.cells (w0 a0)))] ?_))))))
                  exact ih_l6 (iw .i64 (i5 + 1))
              · refine SimI.rd 12 [(109, qb false), (108, qb false), (107, tz), (106, tz), (105, tz), (104, tz), (103, tz), (102, tz), (101, tz), (100, tz), (99, tz), (98, tz)] [] (.thenN (.condF (by kernel_rfl) (.skip (.blockN (.thenN (.region0 (.rd 3 [(6, qj (iw .i64 (i5 + 1))), (66, qj (iw .i64 (i5 + 1))), (65, qj i5)] [] (.loopN (.pr [2, 5, 6] [2, 7] [] [(2, qp 2 0), (5, qj (imin a1 4)), (6, qj (iw .i64 (i5 + 1)))] [(2, some (.cells (w0 a0)))] ?_)))))))))
                exact ih_l6 (iw .i64 (i5 + 1))
    · refine Sim.exit (.thenX (.loopX (.blockX (.thenN (.seq (.sr 1 [(8, qj 0)] [] (.block (.loop (.pr [2, 8] [2] [] [(2, qp 2 0), (8, qj 0)] [(2, some (.cells (w0 a0)))] ?_)))))))))
      exact F10_l13_ok n a0 (n + 8) 0

def F10 (n : Nat) (a0 : Note) (a1 : Int) : Option Bool :=
  if decide (a0.From < 0) then
    some false
  else
    if decide (imin a1 4 ≤ a0.From) then
      some false
    else
      if decide (a0.Beat < 0) then
        some false
      else
        if decide ((1073741824 : Int) < a0.Beat) then
          some false
        else
          (F25 n a0.Moved).bind fun (r1 : Bool) =>
          if !(r1) then
            some false
          else
            (F25 n a0.Given).bind fun (r2 : Bool) =>
            if !(r2) then
              some false
            else
              if decide ((16 : Int) < ((a0.Hands).length : Int)) then
                some false
              else
                if decide ((20 : Int) < ((a0.Watch).length : Int)) then
                  some false
                else
                  F10_l6 n a0 a1 (n + 8) 0
theorem F10_ok (n : Nat) (a0 : Note) (a1 : Int) : ∀ r, F10 n a0 a1 = some r → D 10 [.agg [li .i64 a0.From, li .i64 a0.Beat, vw Thing.cod a0.Moved, vw Hand.cod a0.Hands, vw Thing.cod a0.Given, vw Command.cod a0.Watch], .one (li .i64 a1)] [] = some (F10_e r) := by
  refine fn_to (D := D) (n := n + 8) (nt := 176) (rs := pc10_r) (c := p10c105) (L := [(0, .agg (w0 a0)), (1, qj a1)]) (M := []) (k := 0) rfl rfl rfl rfl rfl rfl rfl ?_
  unfold F10
  refine Sim.sr 2 [(4, qb false), (2, qp 2 0)] [(2, some (.cells (w0 a0)))] (.sr 3 [(5, qj (imin a1 4)), (16, qj (imin a1 4)), (15, qj a1)] [] (.seq (.st 4 [(20, qb (decide (a0.From < 0))), (19, qb (decide (a0.From < 0))), (18, qj a0.From), (17, qp 2 0)] [] (.split 20 (decide (a0.From < 0)) (by kernel_rfl) ?_ ?_))))
  · exact SimI.rd 39 [(59, qb true), (58, tz), (57, tz), (56, tz), (55, tz), (54, qb true), (53, qb true), (52, tz), (51, tz), (50, tz), (49, tz), (48, qb true), (47, qb true), (46, tz), (45, tz), (44, tz), (43, tz), (42, qb true), (41, qb true), (40, tz), (39, tz), (38, tz), (37, tz), (36, qb true), (35, qb true), (34, tz), (33, tz), (32, tz), (31, qb true), (30, qb true), (29, tz), (28, tz), (27, tz), (26, qb true), (25, qb true), (24, tz), (23, tz), (22, tz), (21, tz)] [] (.thenN (.condT (by kernel_rfl) (.sr 1 [(4, qb false)] [] (.ret (.thenR .fn)))))
  · refine SimI.rn 6 [(26, qb (decide (imin a1 4 ≤ a0.From))), (25, qb (decide (imin a1 4 ≤ a0.From))), (24, qb (decide (imin a1 4 ≤ a0.From))), (23, qj (imin a1 4)), (22, qj a0.From), (21, qp 2 0)] [] (.split 26 (decide (imin a1 4 ≤ a0.From)) (by kernel_rfl) ?_ ?_)
    · exact SimI.rd 33 [(59, qb true), (58, tz), (57, tz), (56, tz), (55, tz), (54, qb true), (53, qb true), (52, tz), (51, tz), (50, tz), (49, tz), (48, qb true), (47, qb true), (46, tz), (45, tz), (44, tz), (43, tz), (42, qb true), (41, qb true), (40, tz), (39, tz), (38, tz), (37, tz), (36, qb true), (35, qb true), (34, tz), (33, tz), (32, tz), (31, qb true), (30, qb true), (29, tz), (28, tz), (27, tz)] [] (.thenN (.condT (by kernel_rfl) (.sr 1 [(4, qb false)] [] (.ret (.thenR .fn)))))
    · refine SimI.rn 5 [(31, qb (decide (a0.Beat < 0))), (30, qb (decide (a0.Beat < 0))), (29, qb (decide (a0.Beat < 0))), (28, qj a0.Beat), (27, qp 2 1)] [] (.split 31 (decide (a0.Beat < 0)) (by kernel_rfl) ?_ ?_)
      · exact SimI.rd 28 [(59, qb true), (58, tz), (57, tz), (56, tz), (55, tz), (54, qb true), (53, qb true), (52, tz), (51, tz), (50, tz), (49, tz), (48, qb true), (47, qb true), (46, tz), (45, tz), (44, tz), (43, tz), (42, qb true), (41, qb true), (40, tz), (39, tz), (38, tz), (37, tz), (36, qb true), (35, qb true), (34, tz), (33, tz), (32, tz)] [] (.thenN (.condT (by kernel_rfl) (.sr 1 [(4, qb false)] [] (.ret (.thenR .fn)))))
      · refine SimI.rn 5 [(36, qb (decide ((1073741824 : Int) < a0.Beat))), (35, qb (decide ((1073741824 : Int) < a0.Beat))), (34, qb (decide ((1073741824 : Int) < a0.Beat))), (33, qj a0.Beat), (32, qp 2 1)] [] (.split 36 (decide ((1073741824 : Int) < a0.Beat)) (by kernel_rfl) ?_ ?_)
        · exact SimI.rd 23 [(59, qb true), (58, tz), (57, tz), (56, tz), (55, tz), (54, qb true), (53, qb true), (52, tz), (51, tz), (50, tz), (49, tz), (48, qb true), (47, qb true), (46, tz), (45, tz), (44, tz), (43, tz), (42, qb true), (41, qb true), (40, tz), (39, tz), (38, tz), (37, tz)] [] (.thenN (.condT (by kernel_rfl) (.sr 1 [(4, qb false)] [] (.ret (.thenR .fn)))))
        · refine SimI.rn 2 [(38, .one (vw Thing.cod a0.Moved)), (37, qp 2 2)] [] (.cl 39 true [[(0, 11)]] 25 [38] (some (36, false)) (fun r1 => qb r1) [.one (vw Thing.cod a0.Moved)] (F25_ok n a0.Moved) (fun r1 => ?_))
          refine SimI.rn 3 [(42, qb (!(r1))), (41, qb (!(r1))), (40, qb (!(r1)))] [] (.split 42 (!(r1)) (by kernel_rfl) ?_ ?_)
          · exact SimI.rd 17 [(59, qb true), (58, tz), (57, tz), (56, tz), (55, tz), (54, qb true), (53, qb true), (52, tz), (51, tz), (50, tz), (49, tz), (48, qb true), (47, qb true), (46, tz), (45, tz), (44, tz), (43, tz)] [] (.thenN (.condT (by kernel_rfl) (.sr 1 [(4, qb false)] [] (.ret (.thenR .fn)))))
          · refine SimI.rn 2 [(44, .one (vw Thing.cod a0.Given)), (43, qp 2 4)] [] (.cl 45 true [[(0, 11)]] 25 [44] (some (42, false)) (fun r2 => qb r2) [.one (vw Thing.cod a0.Given)] (F25_ok n a0.Given) (fun r2 => ?_))
            refine SimI.rn 3 [(48, qb (!(r2))), (47, qb (!(r2))), (46, qb (!(r2)))] [] (.split 48 (!(r2)) (by kernel_rfl) ?_ ?_)
            · exact SimI.rd 11 [(59, qb true), (58, tz), (57, tz), (56, tz), (55, tz), (54, qb true), (53, qb true), (52, tz), (51, tz), (50, tz), (49, tz)] [] (.thenN (.condT (by kernel_rfl) (.sr 1 [(4, qb false)] [] (.ret (.thenR .fn)))))
            · refine SimI.rn 6 [(54, qb (decide ((16 : Int) < ((a0.Hands).length : Int)))), (53, qb (decide ((16 : Int) < ((a0.Hands).length : Int)))), (52, qb (decide ((16 : Int) < ((a0.Hands).length : Int)))), (51, qj ((a0.Hands).length : Int)), (50, .one (vw Hand.cod a0.Hands)), (49, qp 2 3)] [] (.split 54 (decide ((16 : Int) < ((a0.Hands).length : Int))) (by kernel_rfl) ?_ ?_)
              · exact SimI.rd 5 [(59, qb true), (58, tz), (57, tz), (56, tz), (55, tz)] [] (.thenN (.condT (by kernel_rfl) (.sr 1 [(4, qb false)] [] (.ret (.thenR .fn)))))
              · refine SimI.rd 5 [(59, qb (decide ((20 : Int) < ((a0.Watch).length : Int)))), (58, qb (decide ((20 : Int) < ((a0.Watch).length : Int)))), (57, qj ((a0.Watch).length : Int)), (56, .one (vw Command.cod a0.Watch)), (55, qp 2 5)] [] (.thenN (.cond (decide ((20 : Int) < ((a0.Watch).length : Int))) (by kernel_rfl) ?_ ?_))
                · exact Sim.sr 1 [(4, qb false)] [] (.ret (.thenR .fn))
                · refine Sim.skip (.thenN (.seq (.sr 1 [(6, qj 0)] [] (.block (.loop (.pr [2, 5, 6] [2, 7] [] [(2, qp 2 0), (5, qj (imin a1 4)), (6, qj 0)] [(2, some (.cells (w0 a0)))] ?_))))))
                  exact F10_l6_ok n a0 a1 (n + 8) 0


-- 3: vedette/vedettelaw17.NoteTells
def F3_e : Bool → PV × List Ob := fun r => (.one (lb r), [])
def F3 (n : Nat) (a0 : Note) (a1 : Note) (a2 : Int) : Option Bool :=
  ((some true)).bind fun (r1 : Bool) =>
  if !(r1) then
    some false
  else
    (F8 n a0).bind fun (r2 : Bool) =>
    if !(r2) then
      some true
    else
      (F8 n a1).bind fun (r3 : Bool) =>
      if !(r3) then
        some true
      else
        (F9 n a0).bind fun (r4 : (ByteArray × Int)) =>
        (F10 n a0 4).bind fun (r5 : Bool) =>
        (F11 n a0 a2).bind fun (r6 : Bool) =>
        (F10 n a0 a2).bind fun (r7 : Bool) =>
        if r6 == r7 then
          (F12 n a0 a1).bind fun (r8 : Bool) =>
          (F13 n a0 a1).bind fun (r9 : Bool) =>
          if r8 == r9 then
            if (r4.2 == 0) == r5 then
              if r4.2 == 0 then
                some true
              else
                some (r4.2 == 11)
            else
              some false
          else
            some false
        else
          some false
theorem F3_ok (n : Nat) (a0 : Note) (a1 : Note) (a2 : Int) : ∀ r, F3 n a0 a1 a2 = some r → D 3 [.agg [li .i64 a0.From, li .i64 a0.Beat, vw Thing.cod a0.Moved, vw Hand.cod a0.Hands, vw Thing.cod a0.Given, vw Command.cod a0.Watch], .agg [li .i64 a1.From, li .i64 a1.Beat, vw Thing.cod a1.Moved, vw Hand.cod a1.Hands, vw Thing.cod a1.Given, vw Command.cod a1.Watch], .one (li .i64 a2)] [] = some (F3_e r) := by
  refine fn_to (D := D) (n := n + 8) (nt := 57) (rs := pc3_r) (c := p3c25) (L := [(0, .agg (w0 a0)), (1, .agg (w0 a1)), (2, qj a2)]) (M := []) (k := 0) rfl rfl rfl rfl rfl rfl rfl ?_
  unfold F3
  refine Sim.sr 3 [(6, qb false), (4, qp 4 0), (3, qp 3 0)] [(4, some (.cells (w0 a1))), (3, some (.cells (w0 a0)))] (.seq (.seq (.region0 (.cl 10 true [] 7 [] none (fun r1 => qb r1) [] (F7_ok n) (fun r1 => ?_)))))
  refine SimI.rd 1 [(11, qb (!(r1)))] [] (.thenN (.cond (!(r1)) (by kernel_rfl) ?_ ?_))
  · exact Sim.sr 1 [(6, qb false)] [] (.ret (.thenR .fn))
  · refine Sim.skip (.thenN (.seq (.st 1 [(12, .agg (w0 a0))] [] (.cl 13 true [[(2, 11), (3, 2), (4, 11), (5, 22)]] 8 [12] none (fun r2 => qb r2) [.agg (w0 a0)] (F8_ok n a0) (fun r2 => ?_)))))
    refine SimI.rn 2 [(15, qb (!(r2))), (14, qb (!(r2)))] [] (.split 15 (!(r2)) (by kernel_rfl) ?_ ?_)
    · exact SimI.rd 4 [(19, qb true), (18, tz), (17, tz), (16, tz)] [] (.thenN (.condT (by kernel_rfl) (.sr 1 [(6, qb true)] [] (.ret (.thenR .fn)))))
    · refine SimI.rn 1 [(16, .agg (w0 a1))] [] (.cl 17 true [[(2, 11), (3, 2), (4, 11), (5, 22)]] 8 [16] (some (15, false)) (fun r3 => qb r3) [.agg (w0 a1)] (F8_ok n a1) (fun r3 => ?_))
      refine SimI.rd 2 [(19, qb (!(r3))), (18, qb (!(r3)))] [] (.thenN (.cond (!(r3)) (by kernel_rfl) ?_ ?_))
      · exact Sim.sr 1 [(6, qb true)] [] (.ret (.thenR .fn))
      · refine Sim.skip (.thenN (.st 1 [(21, .agg (w0 a0))] [] (.cl 22 true [[(2, 11), (3, 2), (4, 11), (5, 22)]] 9 [21] none (fun r4 => .tup [qs r4.1, qj r4.2]) [.agg (w0 a0)] (F9_ok n a0) (fun r4 => ?_))))
        refine SimI.rd 5 [(8, qj r4.2), (7, qs r4.1), (24, qj r4.2), (23, qs r4.1), (20, .tup [qs r4.1, qj r4.2])] [] (.thenN (.st 1 [(25, .agg (w0 a0))] [] (.cl 26 true [[(2, 11), (3, 2), (4, 11), (5, 22)], []] 10 [25, Operand.const (Value.int IntKind.i64 4)] none (fun r5 => qb r5) [.agg (w0 a0), qj 4] (F10_ok n a0 4) (fun r5 => ?_))))
        refine SimI.rd 1 [(9, qb r5)] [] (.thenN (.st 2 [(28, qj a2), (27, .agg (w0 a0))] [] (.bind (og := F11 n a0 a2) ⟨some 29, POp.call false [[(2, 11), (3, 2), (4, 11), (5, 22)], []] 11 [27, 28], none, [(27, Hint.imm), (28, Hint.imm)]⟩ (fun r6 => [(29, qb r6)]) (fun r6 => []) (by kernel_rfl) (fun r6 hr => pOp_eff (by kernel_rfl) (by kernel_rfl) (eff_call (ARGS := [.agg (w0 a0), qj a2]) (by kernel_rfl) (args_clean (by kernel_rfl) (args_clean (by kernel_rfl) args_nil)) (F11_ok n a0 a2 r6 hr) (by kernel_rfl))) (fun r6 => ?_))))
        refine SimI.rn 2 [(31, qj a2), (30, .agg (w0 a0))] [] (.bind (og := F10 n a0 a2) ⟨some 32, POp.call false [[(2, 11), (3, 2), (4, 11), (5, 22)], []] 10 [30, 31], none, [(30, Hint.imm), (31, Hint.imm)]⟩ (fun r7 => [(32, qb r7)]) (fun r7 => []) (by kernel_rfl) (fun r7 hr => pOp_eff (by kernel_rfl) (by kernel_rfl) (eff_call (ARGS := [.agg (w0 a0), qj a2]) (by kernel_rfl) (args_clean (by kernel_rfl) (args_clean (by kernel_rfl) args_nil)) (F10_ok n a0 a2 r7 hr) (by kernel_rfl))) (fun r7 => ?_))
        refine SimI.rn 2 [(34, qb (r6 == r7)), (33, qb (r6 == r7))] [] (.split 34 (r6 == r7) (by kernel_rfl) ?_ ?_)
        · refine SimI.rn 2 [(36, .agg (w0 a1)), (35, .agg (w0 a0))] [] (.bind (og := F12 n a0 a1) ⟨some 37, POp.call false [[(2, 11), (3, 2), (4, 11), (5, 22)], [(2, 11), (3, 2), (4, 11), (5, 22)]] 12 [35, 36], some (34, true), [(35, Hint.imm), (36, Hint.imm)]⟩ (fun r8 => [(37, qb r8)]) (fun r8 => []) (by kernel_rfl) (fun r8 hr => pOp_eff (by kernel_rfl) (by kernel_rfl) (eff_call (ARGS := [.agg (w0 a0), .agg (w0 a1)]) (by kernel_rfl) (args_clean (by kernel_rfl) (args_clean (by kernel_rfl) args_nil)) (F12_ok n a0 a1 r8 hr) (by kernel_rfl))) (fun r8 => ?_))
          refine SimI.rn 2 [(39, .agg (w0 a1)), (38, .agg (w0 a0))] [] (.bind (og := F13 n a0 a1) ⟨some 40, POp.call false [[(2, 11), (3, 2), (4, 11), (5, 22)], [(2, 11), (3, 2), (4, 11), (5, 22)]] 13 [38, 39], some (34, true), [(38, Hint.imm), (39, Hint.imm)]⟩ (fun r9 => [(40, qb r9)]) (fun r9 => []) (by kernel_rfl) (fun r9 hr => pOp_eff (by kernel_rfl) (by kernel_rfl) (eff_call (ARGS := [.agg (w0 a0), .agg (w0 a1)]) (by kernel_rfl) (args_clean (by kernel_rfl) (args_clean (by kernel_rfl) args_nil)) (F13_ok n a0 a1 r9 hr) (by kernel_rfl))) (fun r9 => ?_))
          refine SimI.rn 3 [(43, qb (r8 == r9)), (42, qb (r8 == r9)), (41, qb (r8 == r9))] [] (.split 43 (r8 == r9) (by kernel_rfl) ?_ ?_)
          · refine SimI.rn 6 [(49, qb ((r4.2 == 0) == r5)), (48, qb ((r4.2 == 0) == r5)), (47, qb ((r4.2 == 0) == r5)), (46, qb r5), (45, qb (r4.2 == 0)), (44, qj r4.2)] [] (.split 49 ((r4.2 == 0) == r5) (by kernel_rfl) ?_ ?_)
            · refine SimI.rn 3 [(52, qb (r4.2 == 0)), (51, qb (r4.2 == 0)), (50, qj r4.2)] [] (.split 52 (r4.2 == 0) (by kernel_rfl) ?_ ?_)
              · exact SimI.rd 5 [(6, qb true), (56, qb true), (55, qb true), (54, tz), (53, tz)] [] (.thenN (.ret .fn))
              · exact SimI.rd 5 [(6, qb (r4.2 == 11)), (56, qb (r4.2 == 11)), (55, qb (r4.2 == 11)), (54, qb (r4.2 == 11)), (53, qj r4.2)] [] (.thenN (.ret .fn))
            · exact SimI.rd 8 [(6, qb false), (56, qb false), (55, tz), (54, tz), (53, tz), (52, tz), (51, tz), (50, tz)] [] (.thenN (.ret .fn))
          · exact SimI.rd 14 [(6, qb false), (56, qb false), (55, tz), (54, tz), (53, tz), (52, tz), (51, tz), (50, tz), (49, qb false), (48, qb false), (47, tz), (46, tz), (45, tz), (44, tz)] [] (.thenN (.ret .fn))
        · exact SimI.rd 23 [(6, qb false), (56, qb false), (55, tz), (54, tz), (53, tz), (52, tz), (51, tz), (50, tz), (49, qb false), (48, qb false), (47, tz), (46, tz), (45, tz), (44, tz), (43, qb false), (42, qb false), (41, tz), (40, tz), (39, tz), (38, tz), (37, tz), (36, tz), (35, tz)] [] (.thenN (.ret .fn))


end Go.Proofs.Ytpjejnefegdoeaa
