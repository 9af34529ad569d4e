/-
  The functions of this claim, as the pure machine runs them, and how one step follows another. No condition.
-/
import Derived.Test.YtdnfamkokhgdbaaME
import Derived.Test.YtdnfamkokhgdbaaMF
namespace Go.Proofs.Ytdnfamkokhgdbaa
open Go Go.Rx
set_option maxRecDepth 100000
set_option maxHeartbeats 4000000
set_option linter.unusedSimpArgs false

theorem all16 (p : Nat → Prop) (h0 : p 0) (h1 : p 1) (h2 : p 2) (h3 : p 3) (h4 : p 4) (h5 : p 5) (h6 : p 6) (h7 : p 7) (h8 : p 8) (h9 : p 9) (h10 : p 10) (h11 : p 11) (h12 : p 12) (h13 : p 13) (h14 : p 14) (h15 : p 15) (i : Nat) (hi : i < 16) : p i := by
  have h : i = 0 ∨ i = 1 ∨ i = 2 ∨ i = 3 ∨ i = 4 ∨ i = 5 ∨ i = 6 ∨ i = 7 ∨ i = 8 ∨ i = 9 ∨ i = 10 ∨ i = 11 ∨ i = 12 ∨ i = 13 ∨ i = 14 ∨ i = 15 := by omega
  rcases h with rfl | rfl | rfl | rfl | rfl | rfl | rfl | rfl | rfl | rfl | rfl | rfl | rfl | rfl | rfl | rfl
  · exact h0
  · exact h1
  · exact h2
  · exact h3
  · exact h4
  · exact h5
  · exact h6
  · exact h7
  · exact h8
  · exact h9
  · exact h10
  · exact h11
  · exact h12
  · exact h13
  · exact h14
  · exact h15

theorem orUp_bit {w : Nat} (e : Nat → BitVec w) (j : Nat) : ∀ (n : Nat), (∀ i, i < n → i ≠ j → (e i).getLsbD j = false) → (orUp e n).getLsbD j = (decide (j < n) && (e j).getLsbD j)
  | 0, _ => by simp [orUp]
  | n + 1, h => by
    rw [orUp, BitVec.getLsbD_or, orUp_bit e j n (fun i hi => h i (by omega))]
    by_cases hj : j = n
    · subst hj; simp
    · rw [h n (by omega) (Ne.symm hj), Bool.or_false]
      congr 1
      exact decide_eq_decide.2 (by omega)

theorem one_bit (m : BitVec 32) (i : Nat) (j : Nat) : ((m >>> i &&& 1#32).setWidth 16).getLsbD j = (decide (j = 0) && m.getLsbD i) := by
  rw [BitVec.getLsbD_setWidth, BitVec.getLsbD_and, BitVec.getLsbD_ushiftRight, BitVec.getLsbD_one]
  by_cases h : j = 0
  · subst h; simp
  · simp [h]
theorem one_bit16 (m : BitVec 16) (i : Nat) (j : Nat) : ((m >>> i &&& 1#16).setWidth 32).getLsbD j = (decide (j = 0) && m.getLsbD i) := by
  rw [BitVec.getLsbD_setWidth, BitVec.getLsbD_and, BitVec.getLsbD_ushiftRight, BitVec.getLsbD_one]
  by_cases h : j = 0
  · subst h; simp
  · simp [h]

theorem up_bit (m : BitVec 32) (f : Nat → Nat) (j : Nat) (hj : j < 16) : (orUp (fun i => ((m >>> f i &&& 1#32).setWidth 16) <<< i) 16).getLsbD j = m.getLsbD (f j) := by
  rw [orUp_bit]
  · rw [BitVec.getLsbD_shiftLeft, one_bit]; simp [hj]
  · intro i hi hn
    rw [BitVec.getLsbD_shiftLeft, one_bit]
    by_cases h : j < i
    · simp [h]
    · simp [h, show ¬ (j - i = 0) by omega]

theorem rsplitX_is (m : BitVec 32) : rsplitX m = (gatherB m).setWidth 16 := by
  apply BitVec.eq_of_getLsbD_eq
  intro i hi
  rw [BitVec.getLsbD_setWidth, gather_bit _ _ (by omega), rsplitX, up_bit m (fun i => 2 * i) i hi]; simp [hi]
theorem rsplitY_is (m : BitVec 32) : rsplitY m = (gatherB (m >>> 1)).setWidth 16 := by
  apply BitVec.eq_of_getLsbD_eq
  intro i hi
  rw [BitVec.getLsbD_setWidth, gather_bit _ _ (by omega), rsplitY, up_bit m (fun i => 2 * i + 1) i hi, BitVec.getLsbD_ushiftRight, Nat.add_comm 1]; simp [hi]

theorem rweave_bit (x y : BitVec 16) (j : Nat) (hj : j < 32) : ∀ (n : Nat), n ≤ 16 → (rweaveN x y n).getLsbD j = (decide (j < 2 * n) && if j % 2 = 0 then x.getLsbD (j / 2) else y.getLsbD (j / 2))
  | 0, _ => by simp [rweaveN]
  | n + 1, h => by
    rw [rweaveN, BitVec.getLsbD_or, BitVec.getLsbD_or, rweave_bit x y j hj n (by omega), BitVec.getLsbD_shiftLeft, BitVec.getLsbD_shiftLeft, one_bit16, one_bit16]
    by_cases h1 : j < 2 * n
    · simp [hj, h1, show j < 2 * n + 1 by omega, show j < 2 * (n + 1) by omega]
    · by_cases h2 : j = 2 * n
      · subst h2
        simp [hj]
      · by_cases h3 : j = 2 * n + 1
        · subst h3
          simp [hj, show ¬ (2 * n + 1 < 2 * n) by omega, show 2 * n + 1 < 2 * (n + 1) by omega, show (2 * n + 1) / 2 = n by omega]
        · simp [hj, h1, show ¬ (j - 2 * n = 0) by omega, show ¬ (j - (2 * n + 1) = 0) by omega, show ¬ (j < 2 * (n + 1)) by omega]

theorem rweave_is (x y : BitVec 16) : rweaveN x y 16 = weaveB x y := by
  apply BitVec.eq_of_getLsbD_eq
  intro i hi
  rw [rweave_bit x y i hi 16 (by omega), weave_bit x y i hi]; simp [hi]

theorem tells_all (x y : BitVec 16) (a b : BitVec 32) (n : Int) : D 3 [.one (.val (.int .u16 (x.toNat : Int))), .one (.val (.int .u16 (y.toNat : Int))), .one (.val (.int .u32 (a.toNat : Int))), .one (.val (.int .u32 (b.toNat : Int))), .one (.val (.int .i64 n))] [] = some (.one (.val (.bool true)), []) := by
  refine all_fn (n := 0) (pf := pc3) rfl (Nat.le_of_ble_eq_true rfl) ?_
  change evBody Try.prog D 0 pc3 _ _ = _
  refine body_ev ?_
  simp only [pc3, ini, iniO]
  repeat' (first
    | apply Ev.seq
    | (apply Ev.region; (· simp only [ofl_cons, ofl_nil, oflO_cons, oflO_nil, reduceIte, Nat.reduceEqDiff, Nat.reduceAdd, Nat.reduceMul, Nat.reduceSub, Nat.reduceLeDiff, Nat.reduceBEq, Nat.one_ne_zero, Nat.zero_ne_one, Bool.false_eq_true, decide_true, decide_false, true_and, and_true, and_self, beq_self_eq_true, St.restrict, restrict', liveO, List.filter, List.all, List.any, List.map, PV.ment, Lf.ment, Lf.ment.mentL, PV.refsIn, Lf.refsIn, Lf.refsIn.refsInL, Ob.refsIn, pbase, List.contains, List.elem, Bool.or_false, Bool.false_or, Bool.and_true, Bool.true_and, Bool.and_self, Bool.or_true, Bool.true_or, Bool.or_self, Bool.and_false] <;> with_reducible rfl))
    | apply EvO.nil
    | apply EvO.nil_block
    | apply EvO.nil_end
    | (apply Ev.ret; apply endQ_ret)
    | (apply Ev.ret; apply thenQ_ret)
    | (apply Ev.ret; apply blockQ_ret)
    | apply endQ_ret
    | apply thenQ_ret
    | apply blockQ_ret
    | apply thenQ_normal
    | apply blockQ_normal
    | apply endQ_normal
    | apply thenQ_exit
    | apply blockQ_exit
    | (apply Ev.exit; apply thenQ_exit)
    | (apply Ev.exit; apply blockQ_exit)
    | apply Ev.skip
    | apply Ev.skip_block
    | apply Ev.skip_end
    | apply Ev.label
    | apply Ev.block
    | apply Ev.scope
    | apply Ev.loop
    | apply EvL.round
    | (apply EvO.op; (· simp only [ofl_cons, ofl_nil, oflO_cons, oflO_nil, reduceIte, Nat.reduceEqDiff, Nat.reduceAdd, Nat.reduceMul, Nat.reduceSub, Nat.reduceLeDiff, Nat.reduceBEq, Nat.one_ne_zero, Nat.zero_ne_one, Bool.false_eq_true, decide_true, decide_false, true_and, and_true, and_self, beq_self_eq_true, eff, St.ev, PV.cells, upd_oflO, evs, List.map, PV.toVals, PV.toVal, Lf.toVal, Lf.toVals, PV.ofVal, rdc, Option.map, Option.some.injEq, Nat.zero_add, Nat.add_zero, List.getElem?_cons_zero, List.getElem?_cons_succ, List.getElem?_nil, List.drop, List.take, List.length, List.length_cons, List.length_nil, splice, fillP, List.append, List.nil_append, List.cons_append, List.append_nil, List.all, Value.oneCell', Lf.clean, Bool.and_true, Bool.and_self, PV.int?, Int.reduceLE, Int.reduceLT, Int.reduceToNat, cellsL, onesL, Int.cast_ofNat_Int, Int.toNat_zero, Nat.zero_mul, bound?, Nat.le_refl, Nat.zero_le, List.all_cons, List.all_nil, List.map_cons, List.map_nil, List.toList_toArray, Array.toList, pr_add, pr_sub, pr_mul, pr_and, pr_or, pr_xor, pr_andNot, pr_lss, pr_leq, pr_gtr, pr_geq, pr_eql, pr_neq, pr_not, pr_neg, pr_min2, pr_max2, pr_min4, pr_max4, callP, argsOf, objsIn, objsOut, List.contains, List.elem, PV.clean, PV.clean.cleanL, List.isEmpty, Bool.or_true, Bool.true_or, Bool.not_false, Bool.not_true, List.zip, List.zipWith, List.length_append, List.isEmpty_nil, Bool.false_or, ofInt_bv, wrap8, wrap16, wrap32, wrap64b, and32, or32, xor32, and16, or16, xor16, shl32, shr32, shr16, shr64, shl16, BitVec.reduceOfInt, Int.reduceToNat, Int.reduceAdd, Int.reduceMul, IntWalk.i64_in, IntWalk.u64_in, Int.reduceNeg, not_false_eq_true, pr_shl, pr_shr, cv22_23, cv5_3, cv3_31, cv23_22, cv23_51, cv51_23, known_all, weave_all, split_all, less_all, parent_all, rsplit_all, rweave_all, rparent_all, rsplitX_is, rsplitY_is, rweave_is, bv_lt, eqb4]; done))
    | (apply EvO.op; (· simp only [ofl_cons, ofl_nil, oflO_cons, oflO_nil, reduceIte, Nat.reduceEqDiff, Nat.reduceAdd, Nat.reduceMul, Nat.reduceSub, Nat.reduceLeDiff, Nat.reduceBEq, Nat.one_ne_zero, Nat.zero_ne_one, Bool.false_eq_true, decide_true, decide_false, true_and, and_true, and_self, beq_self_eq_true, eff, St.ev, PV.cells, upd_oflO, evs, List.map, PV.toVals, PV.toVal, Lf.toVal, Lf.toVals, PV.ofVal, rdc, Option.map, Option.some.injEq, Nat.zero_add, Nat.add_zero, List.getElem?_cons_zero, List.getElem?_cons_succ, List.getElem?_nil, List.drop, List.take, List.length, List.length_cons, List.length_nil, splice, fillP, List.append, List.nil_append, List.cons_append, List.append_nil, List.all, Value.oneCell', Lf.clean, Bool.and_true, Bool.and_self, PV.int?, Int.reduceLE, Int.reduceLT, Int.reduceToNat, cellsL, onesL, Int.cast_ofNat_Int, Int.toNat_zero, Nat.zero_mul, bound?, Nat.le_refl, Nat.zero_le, List.all_cons, List.all_nil, List.map_cons, List.map_nil, List.toList_toArray, Array.toList, pr_add, pr_sub, pr_mul, pr_and, pr_or, pr_xor, pr_andNot, pr_lss, pr_leq, pr_gtr, pr_geq, pr_eql, pr_neq, pr_not, pr_neg, pr_min2, pr_max2, pr_min4, pr_max4, callP, argsOf, objsIn, objsOut, List.contains, List.elem, PV.clean, PV.clean.cleanL, List.isEmpty, Bool.or_true, Bool.true_or, Bool.not_false, Bool.not_true, List.zip, List.zipWith, List.length_append, List.isEmpty_nil, Bool.false_or, ofInt_bv, wrap8, wrap16, wrap32, wrap64b, and32, or32, xor32, and16, or16, xor16, shl32, shr32, shr16, shr64, shl16, BitVec.reduceOfInt, Int.reduceToNat, Int.reduceAdd, Int.reduceMul, IntWalk.i64_in, IntWalk.u64_in, Int.reduceNeg, not_false_eq_true, pr_shl, pr_shr, cv22_23, cv5_3, cv3_31, cv23_22, cv23_51, cv51_23, known_all, weave_all, split_all, less_all, parent_all, rsplit_all, rweave_all, rparent_all, rsplitX_is, rsplitY_is, rweave_is, bv_lt, eqb4] <;> with_reducible rfl))
    | (apply EvO.op_; (· simp only [ofl_cons, ofl_nil, oflO_cons, oflO_nil, reduceIte, Nat.reduceEqDiff, Nat.reduceAdd, Nat.reduceMul, Nat.reduceSub, Nat.reduceLeDiff, Nat.reduceBEq, Nat.one_ne_zero, Nat.zero_ne_one, Bool.false_eq_true, decide_true, decide_false, true_and, and_true, and_self, beq_self_eq_true, eff, St.ev, PV.cells, upd_oflO, evs, List.map, PV.toVals, PV.toVal, Lf.toVal, Lf.toVals, PV.ofVal, rdc, Option.map, Option.some.injEq, Nat.zero_add, Nat.add_zero, List.getElem?_cons_zero, List.getElem?_cons_succ, List.getElem?_nil, List.drop, List.take, List.length, List.length_cons, List.length_nil, splice, fillP, List.append, List.nil_append, List.cons_append, List.append_nil, List.all, Value.oneCell', Lf.clean, Bool.and_true, Bool.and_self, PV.int?, Int.reduceLE, Int.reduceLT, Int.reduceToNat, cellsL, onesL, Int.cast_ofNat_Int, Int.toNat_zero, Nat.zero_mul, bound?, Nat.le_refl, Nat.zero_le, List.all_cons, List.all_nil, List.map_cons, List.map_nil, List.toList_toArray, Array.toList, pr_add, pr_sub, pr_mul, pr_and, pr_or, pr_xor, pr_andNot, pr_lss, pr_leq, pr_gtr, pr_geq, pr_eql, pr_neq, pr_not, pr_neg, pr_min2, pr_max2, pr_min4, pr_max4, callP, argsOf, objsIn, objsOut, List.contains, List.elem, PV.clean, PV.clean.cleanL, List.isEmpty, Bool.or_true, Bool.true_or, Bool.not_false, Bool.not_true, List.zip, List.zipWith, List.length_append, List.isEmpty_nil, Bool.false_or, ofInt_bv, wrap8, wrap16, wrap32, wrap64b, and32, or32, xor32, and16, or16, xor16, shl32, shr32, shr16, shr64, shl16, BitVec.reduceOfInt, Int.reduceToNat, Int.reduceAdd, Int.reduceMul, IntWalk.i64_in, IntWalk.u64_in, Int.reduceNeg, not_false_eq_true, pr_shl, pr_shr, cv22_23, cv5_3, cv3_31, cv23_22, cv23_51, cv51_23, known_all, weave_all, split_all, less_all, parent_all, rsplit_all, rweave_all, rparent_all, rsplitX_is, rsplitY_is, rweave_is, bv_lt, eqb4] <;> with_reducible rfl))
    | (apply EvO.go; (· simp only [ofl_cons, ofl_nil, oflO_cons, oflO_nil, reduceIte, Nat.reduceEqDiff, Nat.reduceAdd, Nat.reduceMul, Nat.reduceSub, Nat.reduceLeDiff, Nat.reduceBEq, Nat.one_ne_zero, Nat.zero_ne_one, Bool.false_eq_true, decide_true, decide_false, true_and, and_true, and_self, beq_self_eq_true]; done); (· simp only [ofl_cons, ofl_nil, oflO_cons, oflO_nil, reduceIte, Nat.reduceEqDiff, Nat.reduceAdd, Nat.reduceMul, Nat.reduceSub, Nat.reduceLeDiff, Nat.reduceBEq, Nat.one_ne_zero, Nat.zero_ne_one, Bool.false_eq_true, decide_true, decide_false, true_and, and_true, and_self, beq_self_eq_true, eff, St.ev, PV.cells, upd_oflO, evs, List.map, PV.toVals, PV.toVal, Lf.toVal, Lf.toVals, PV.ofVal, rdc, Option.map, Option.some.injEq, Nat.zero_add, Nat.add_zero, List.getElem?_cons_zero, List.getElem?_cons_succ, List.getElem?_nil, List.drop, List.take, List.length, List.length_cons, List.length_nil, splice, fillP, List.append, List.nil_append, List.cons_append, List.append_nil, List.all, Value.oneCell', Lf.clean, Bool.and_true, Bool.and_self, PV.int?, Int.reduceLE, Int.reduceLT, Int.reduceToNat, cellsL, onesL, Int.cast_ofNat_Int, Int.toNat_zero, Nat.zero_mul, bound?, Nat.le_refl, Nat.zero_le, List.all_cons, List.all_nil, List.map_cons, List.map_nil, List.toList_toArray, Array.toList, pr_add, pr_sub, pr_mul, pr_and, pr_or, pr_xor, pr_andNot, pr_lss, pr_leq, pr_gtr, pr_geq, pr_eql, pr_neq, pr_not, pr_neg, pr_min2, pr_max2, pr_min4, pr_max4, callP, argsOf, objsIn, objsOut, List.contains, List.elem, PV.clean, PV.clean.cleanL, List.isEmpty, Bool.or_true, Bool.true_or, Bool.not_false, Bool.not_true, List.zip, List.zipWith, List.length_append, List.isEmpty_nil, Bool.false_or, ofInt_bv, wrap8, wrap16, wrap32, wrap64b, and32, or32, xor32, and16, or16, xor16, shl32, shr32, shr16, shr64, shl16, BitVec.reduceOfInt, Int.reduceToNat, Int.reduceAdd, Int.reduceMul, IntWalk.i64_in, IntWalk.u64_in, Int.reduceNeg, not_false_eq_true, pr_shl, pr_shr, cv22_23, cv5_3, cv3_31, cv23_22, cv23_51, cv51_23, known_all, weave_all, split_all, less_all, parent_all, rsplit_all, rweave_all, rparent_all, rsplitX_is, rsplitY_is, rweave_is, bv_lt, eqb4] <;> with_reducible rfl))
    | (apply EvO.go_; (· simp only [ofl_cons, ofl_nil, oflO_cons, oflO_nil, reduceIte, Nat.reduceEqDiff, Nat.reduceAdd, Nat.reduceMul, Nat.reduceSub, Nat.reduceLeDiff, Nat.reduceBEq, Nat.one_ne_zero, Nat.zero_ne_one, Bool.false_eq_true, decide_true, decide_false, true_and, and_true, and_self, beq_self_eq_true]; done); (· simp only [ofl_cons, ofl_nil, oflO_cons, oflO_nil, reduceIte, Nat.reduceEqDiff, Nat.reduceAdd, Nat.reduceMul, Nat.reduceSub, Nat.reduceLeDiff, Nat.reduceBEq, Nat.one_ne_zero, Nat.zero_ne_one, Bool.false_eq_true, decide_true, decide_false, true_and, and_true, and_self, beq_self_eq_true, eff, St.ev, PV.cells, upd_oflO, evs, List.map, PV.toVals, PV.toVal, Lf.toVal, Lf.toVals, PV.ofVal, rdc, Option.map, Option.some.injEq, Nat.zero_add, Nat.add_zero, List.getElem?_cons_zero, List.getElem?_cons_succ, List.getElem?_nil, List.drop, List.take, List.length, List.length_cons, List.length_nil, splice, fillP, List.append, List.nil_append, List.cons_append, List.append_nil, List.all, Value.oneCell', Lf.clean, Bool.and_true, Bool.and_self, PV.int?, Int.reduceLE, Int.reduceLT, Int.reduceToNat, cellsL, onesL, Int.cast_ofNat_Int, Int.toNat_zero, Nat.zero_mul, bound?, Nat.le_refl, Nat.zero_le, List.all_cons, List.all_nil, List.map_cons, List.map_nil, List.toList_toArray, Array.toList, pr_add, pr_sub, pr_mul, pr_and, pr_or, pr_xor, pr_andNot, pr_lss, pr_leq, pr_gtr, pr_geq, pr_eql, pr_neq, pr_not, pr_neg, pr_min2, pr_max2, pr_min4, pr_max4, callP, argsOf, objsIn, objsOut, List.contains, List.elem, PV.clean, PV.clean.cleanL, List.isEmpty, Bool.or_true, Bool.true_or, Bool.not_false, Bool.not_true, List.zip, List.zipWith, List.length_append, List.isEmpty_nil, Bool.false_or, ofInt_bv, wrap8, wrap16, wrap32, wrap64b, and32, or32, xor32, and16, or16, xor16, shl32, shr32, shr16, shr64, shl16, BitVec.reduceOfInt, Int.reduceToNat, Int.reduceAdd, Int.reduceMul, IntWalk.i64_in, IntWalk.u64_in, Int.reduceNeg, not_false_eq_true, pr_shl, pr_shr, cv22_23, cv5_3, cv3_31, cv23_22, cv23_51, cv51_23, known_all, weave_all, split_all, less_all, parent_all, rsplit_all, rweave_all, rparent_all, rsplitX_is, rsplitY_is, rweave_is, bv_lt, eqb4] <;> with_reducible rfl))
    | (apply EvO.off (b' := true); (· simp only [ofl_cons, ofl_nil, oflO_cons, oflO_nil, reduceIte, Nat.reduceEqDiff, Nat.reduceAdd, Nat.reduceMul, Nat.reduceSub, Nat.reduceLeDiff, Nat.reduceBEq, Nat.one_ne_zero, Nat.zero_ne_one, Bool.false_eq_true, decide_true, decide_false, true_and, and_true, and_self, beq_self_eq_true]; done); (· decide))
    | (apply EvO.off (b' := false); (· simp only [ofl_cons, ofl_nil, oflO_cons, oflO_nil, reduceIte, Nat.reduceEqDiff, Nat.reduceAdd, Nat.reduceMul, Nat.reduceSub, Nat.reduceLeDiff, Nat.reduceBEq, Nat.one_ne_zero, Nat.zero_ne_one, Bool.false_eq_true, decide_true, decide_false, true_and, and_true, and_self, beq_self_eq_true]; done); (· decide))
    | (apply EvO.split; (· simp only [ofl_cons, ofl_nil, oflO_cons, oflO_nil, reduceIte, Nat.reduceEqDiff, Nat.reduceAdd, Nat.reduceMul, Nat.reduceSub, Nat.reduceLeDiff, Nat.reduceBEq, Nat.one_ne_zero, Nat.zero_ne_one, Bool.false_eq_true, decide_true, decide_false, true_and, and_true, and_self, beq_self_eq_true] <;> with_reducible rfl); all_goals (intro ht; simp only [ht]))
    | (apply Ev.cond (t := true); (· simp only [St.ev, ofl_cons, ofl_nil, oflO_cons, oflO_nil, reduceIte, Nat.reduceEqDiff, Nat.reduceAdd, Nat.reduceMul, Nat.reduceSub, Nat.reduceLeDiff, Nat.reduceBEq, Nat.one_ne_zero, Nat.zero_ne_one, Bool.false_eq_true, decide_true, decide_false, true_and, and_true, and_self, beq_self_eq_true]; done))
    | (apply Ev.cond (t := false); (· simp only [St.ev, ofl_cons, ofl_nil, oflO_cons, oflO_nil, reduceIte, Nat.reduceEqDiff, Nat.reduceAdd, Nat.reduceMul, Nat.reduceSub, Nat.reduceLeDiff, Nat.reduceBEq, Nat.one_ne_zero, Nat.zero_ne_one, Bool.false_eq_true, decide_true, decide_false, true_and, and_true, and_self, beq_self_eq_true]; done))
    | (apply Ev.cond_split; (· simp only [St.ev, ofl_cons, ofl_nil, oflO_cons, oflO_nil, reduceIte, Nat.reduceEqDiff, Nat.reduceAdd, Nat.reduceMul, Nat.reduceSub, Nat.reduceLeDiff, Nat.reduceBEq, Nat.one_ne_zero, Nat.zero_ne_one, Bool.false_eq_true, decide_true, decide_false, true_and, and_true, and_self, beq_self_eq_true] <;> with_reducible rfl); all_goals (intro ht; simp only [ht]))
    | (apply fin_ev; (· simp only [ressOf, resOf, PV.freeze, Lf.freeze, freezeL, rdc, List.drop, List.take, List.length_cons, List.length_nil, Option.map, ofl_cons, ofl_nil, oflO_cons, oflO_nil, reduceIte, Nat.reduceEqDiff, Nat.reduceAdd, Nat.reduceMul, Nat.reduceSub, Nat.reduceLeDiff, Nat.reduceBEq, Nat.one_ne_zero, Nat.zero_ne_one, Bool.false_eq_true, decide_true, decide_false, true_and, and_true, and_self, beq_self_eq_true] <;> with_reducible rfl); (· simp only [backOf, freezeL, Lf.freeze, pbase, List.length_cons, List.length_nil, ofl_cons, ofl_nil, oflO_cons, oflO_nil, reduceIte, Nat.reduceEqDiff, Nat.reduceAdd, Nat.reduceMul, Nat.reduceSub, Nat.reduceLeDiff, Nat.reduceBEq, Nat.one_ne_zero, Nat.zero_ne_one, Bool.false_eq_true, decide_true, decide_false, true_and, and_true, and_self, beq_self_eq_true] <;> with_reducible rfl))
    )
  all_goals rfl

end Go.Proofs.Ytdnfamkokhgdbaa
