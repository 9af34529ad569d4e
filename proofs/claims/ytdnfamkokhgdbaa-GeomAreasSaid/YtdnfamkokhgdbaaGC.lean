/-
  Geom: the law GeomMeets, as the pure machine runs it. No condition.
-/
import Derived.Test.YtdnfamkokhgdbaaGB
namespace Go.Proofs.Ytdnfamkokhgdbaa
open Go Go.Rx
set_option maxRecDepth 100000
set_option maxHeartbeats 4000000
set_option linter.unusedSimpArgs false

theorem kn1 : onB 63 0 = true := by decide
theorem kn2 : onB 64 0 = false := by decide
theorem kn3 : isB ⟨0, 0, 4, 4⟩ = true := by decide
theorem kn4 : isB ⟨2, 0, 1, 0⟩ = false := by decide
theorem kn5 : emptyB ⟨0, 0, 0, 0⟩ = true := by decide
theorem kn6 : inB ⟨0, 0, 4, 4⟩ 3 3 = true := by decide
theorem kn7 : inB ⟨0, 0, 4, 4⟩ 4 0 = false := by decide
theorem kn8 : meetB ⟨0, 0, 4, 4⟩ ⟨1, 1, 2, 2⟩ = ⟨1, 1, 2, 2⟩ := by decide
theorem kn9 : minusL ⟨0, 0, 4, 4⟩ ⟨1, 1, 2, 2⟩ = [⟨0, 0, 4, 1⟩, ⟨0, 2, 4, 4⟩, ⟨0, 1, 1, 2⟩, ⟨2, 1, 4, 2⟩] := by decide
theorem kn10 : areaB ⟨0, 0, 4, 4⟩ = 16 := by decide

theorem known_all  : D 19 [] [] = some (.one (.val (.bool true)), []) := by
  refine all_fn (n := 0) (pf := pc19) rfl (Nat.le_of_ble_eq_true rfl) ?_
  change evBody Try.prog D 0 pc19 _ _ = _
  refine body_ev ?_
  simp only [pc19, ini, iniO]
  repeat' (first
    | apply Ev.seq
    | (apply Ev.region; (· simp only [ofl_cons, ofl_nil, oflO_cons, oflO_nil, reduceIte, Nat.reduceEqDiff, Nat.reduceAdd, Nat.reduceMul, Nat.reduceSub, Nat.reduceLeDiff, Nat.reduceBEq, Nat.one_ne_zero, Nat.zero_ne_one, Bool.false_eq_true, decide_true, decide_false, true_and, and_true, and_self, beq_self_eq_true, St.restrict, restrict', liveO, List.filter, List.all, List.any, List.map, PV.ment, Lf.ment, Lf.ment.mentL, PV.refsIn, Lf.refsIn, Lf.refsIn.refsInL, Ob.refsIn, pbase, List.contains, List.elem, Bool.or_false, Bool.false_or, Bool.and_true, Bool.true_and, Bool.and_self, Bool.or_true, Bool.true_or, Bool.or_self, Bool.and_false] <;> with_reducible rfl))
    | apply EvO.nil
    | apply EvO.nil_block
    | apply EvO.nil_end
    | (apply Ev.ret; apply endQ_ret)
    | (apply Ev.ret; apply thenQ_ret)
    | (apply Ev.ret; apply blockQ_ret)
    | apply endQ_ret
    | apply thenQ_ret
    | apply blockQ_ret
    | apply thenQ_normal
    | apply blockQ_normal
    | apply endQ_normal
    | apply thenQ_exit
    | apply blockQ_exit
    | (apply Ev.exit; apply thenQ_exit)
    | (apply Ev.exit; apply blockQ_exit)
    | apply Ev.skip
    | apply Ev.skip_block
    | apply Ev.skip_end
    | apply Ev.label
    | apply Ev.block
    | apply Ev.scope
    | apply Ev.loop
    | apply EvL.round
    | (apply EvO.op; (· simp only [ofl_cons, ofl_nil, oflO_cons, oflO_nil, reduceIte, Nat.reduceEqDiff, Nat.reduceAdd, Nat.reduceMul, Nat.reduceSub, Nat.reduceLeDiff, Nat.reduceBEq, Nat.one_ne_zero, Nat.zero_ne_one, Bool.false_eq_true, decide_true, decide_false, true_and, and_true, and_self, beq_self_eq_true, eff, St.ev, PV.cells, upd_oflO, evs, List.map, PV.toVals, PV.toVal, Lf.toVal, Lf.toVals, PV.ofVal, rdc, Option.map, Option.some.injEq, Nat.zero_add, Nat.add_zero, List.getElem?_cons_zero, List.getElem?_cons_succ, List.getElem?_nil, List.drop, List.take, List.length, List.length_cons, List.length_nil, splice, fillP, List.append, List.nil_append, List.cons_append, List.append_nil, List.all, Value.oneCell', Lf.clean, Bool.and_true, Bool.and_self, PV.int?, Int.reduceLE, Int.reduceLT, Int.reduceToNat, cellsL, onesL, Int.cast_ofNat_Int, Int.toNat_zero, Nat.zero_mul, bound?, Nat.le_refl, Nat.zero_le, List.all_cons, List.all_nil, List.map_cons, List.map_nil, List.toList_toArray, Array.toList, pr_add, pr_sub, pr_mul, pr_and, pr_or, pr_xor, pr_andNot, pr_lss, pr_leq, pr_gtr, pr_geq, pr_eql, pr_neq, pr_not, pr_neg, pr_min2, pr_max2, pr_min4, pr_max4, callP, argsOf, objsIn, objsOut, List.contains, List.elem, PV.clean, PV.clean.cleanL, List.isEmpty, Bool.or_true, Bool.true_or, Bool.not_false, Bool.not_true, List.zip, List.zipWith, List.length_append, List.isEmpty_nil, Bool.false_or, mk_eta, eq35, eqb4, IntWalk.i64_in, Int.reduceNeg, Int.reduceAdd, Int.reduceToNat, on_all, is_all, empty_all, in_all, meet_all, minus_all, area_all, same_all, sliceV, eq_self, Int.reduceBEq, Bool.not_true, Bool.not_false, kn1, kn2, kn3, kn4, kn5, kn6, kn7, kn8, kn9, kn10]; done))
    | (apply EvO.op; (· simp only [ofl_cons, ofl_nil, oflO_cons, oflO_nil, reduceIte, Nat.reduceEqDiff, Nat.reduceAdd, Nat.reduceMul, Nat.reduceSub, Nat.reduceLeDiff, Nat.reduceBEq, Nat.one_ne_zero, Nat.zero_ne_one, Bool.false_eq_true, decide_true, decide_false, true_and, and_true, and_self, beq_self_eq_true, eff, St.ev, PV.cells, upd_oflO, evs, List.map, PV.toVals, PV.toVal, Lf.toVal, Lf.toVals, PV.ofVal, rdc, Option.map, Option.some.injEq, Nat.zero_add, Nat.add_zero, List.getElem?_cons_zero, List.getElem?_cons_succ, List.getElem?_nil, List.drop, List.take, List.length, List.length_cons, List.length_nil, splice, fillP, List.append, List.nil_append, List.cons_append, List.append_nil, List.all, Value.oneCell', Lf.clean, Bool.and_true, Bool.and_self, PV.int?, Int.reduceLE, Int.reduceLT, Int.reduceToNat, cellsL, onesL, Int.cast_ofNat_Int, Int.toNat_zero, Nat.zero_mul, bound?, Nat.le_refl, Nat.zero_le, List.all_cons, List.all_nil, List.map_cons, List.map_nil, List.toList_toArray, Array.toList, pr_add, pr_sub, pr_mul, pr_and, pr_or, pr_xor, pr_andNot, pr_lss, pr_leq, pr_gtr, pr_geq, pr_eql, pr_neq, pr_not, pr_neg, pr_min2, pr_max2, pr_min4, pr_max4, callP, argsOf, objsIn, objsOut, List.contains, List.elem, PV.clean, PV.clean.cleanL, List.isEmpty, Bool.or_true, Bool.true_or, Bool.not_false, Bool.not_true, List.zip, List.zipWith, List.length_append, List.isEmpty_nil, Bool.false_or, mk_eta, eq35, eqb4, IntWalk.i64_in, Int.reduceNeg, Int.reduceAdd, Int.reduceToNat, on_all, is_all, empty_all, in_all, meet_all, minus_all, area_all, same_all, sliceV, eq_self, Int.reduceBEq, Bool.not_true, Bool.not_false, kn1, kn2, kn3, kn4, kn5, kn6, kn7, kn8, kn9, kn10] <;> with_reducible rfl))
    | (apply EvO.op_; (· simp only [ofl_cons, ofl_nil, oflO_cons, oflO_nil, reduceIte, Nat.reduceEqDiff, Nat.reduceAdd, Nat.reduceMul, Nat.reduceSub, Nat.reduceLeDiff, Nat.reduceBEq, Nat.one_ne_zero, Nat.zero_ne_one, Bool.false_eq_true, decide_true, decide_false, true_and, and_true, and_self, beq_self_eq_true, eff, St.ev, PV.cells, upd_oflO, evs, List.map, PV.toVals, PV.toVal, Lf.toVal, Lf.toVals, PV.ofVal, rdc, Option.map, Option.some.injEq, Nat.zero_add, Nat.add_zero, List.getElem?_cons_zero, List.getElem?_cons_succ, List.getElem?_nil, List.drop, List.take, List.length, List.length_cons, List.length_nil, splice, fillP, List.append, List.nil_append, List.cons_append, List.append_nil, List.all, Value.oneCell', Lf.clean, Bool.and_true, Bool.and_self, PV.int?, Int.reduceLE, Int.reduceLT, Int.reduceToNat, cellsL, onesL, Int.cast_ofNat_Int, Int.toNat_zero, Nat.zero_mul, bound?, Nat.le_refl, Nat.zero_le, List.all_cons, List.all_nil, List.map_cons, List.map_nil, List.toList_toArray, Array.toList, pr_add, pr_sub, pr_mul, pr_and, pr_or, pr_xor, pr_andNot, pr_lss, pr_leq, pr_gtr, pr_geq, pr_eql, pr_neq, pr_not, pr_neg, pr_min2, pr_max2, pr_min4, pr_max4, callP, argsOf, objsIn, objsOut, List.contains, List.elem, PV.clean, PV.clean.cleanL, List.isEmpty, Bool.or_true, Bool.true_or, Bool.not_false, Bool.not_true, List.zip, List.zipWith, List.length_append, List.isEmpty_nil, Bool.false_or, mk_eta, eq35, eqb4, IntWalk.i64_in, Int.reduceNeg, Int.reduceAdd, Int.reduceToNat, on_all, is_all, empty_all, in_all, meet_all, minus_all, area_all, same_all, sliceV, eq_self, Int.reduceBEq, Bool.not_true, Bool.not_false, kn1, kn2, kn3, kn4, kn5, kn6, kn7, kn8, kn9, kn10] <;> with_reducible rfl))
    | (apply EvO.go; (· simp only [ofl_cons, ofl_nil, oflO_cons, oflO_nil, reduceIte, Nat.reduceEqDiff, Nat.reduceAdd, Nat.reduceMul, Nat.reduceSub, Nat.reduceLeDiff, Nat.reduceBEq, Nat.one_ne_zero, Nat.zero_ne_one, Bool.false_eq_true, decide_true, decide_false, true_and, and_true, and_self, beq_self_eq_true]; done); (· simp only [ofl_cons, ofl_nil, oflO_cons, oflO_nil, reduceIte, Nat.reduceEqDiff, Nat.reduceAdd, Nat.reduceMul, Nat.reduceSub, Nat.reduceLeDiff, Nat.reduceBEq, Nat.one_ne_zero, Nat.zero_ne_one, Bool.false_eq_true, decide_true, decide_false, true_and, and_true, and_self, beq_self_eq_true, eff, St.ev, PV.cells, upd_oflO, evs, List.map, PV.toVals, PV.toVal, Lf.toVal, Lf.toVals, PV.ofVal, rdc, Option.map, Option.some.injEq, Nat.zero_add, Nat.add_zero, List.getElem?_cons_zero, List.getElem?_cons_succ, List.getElem?_nil, List.drop, List.take, List.length, List.length_cons, List.length_nil, splice, fillP, List.append, List.nil_append, List.cons_append, List.append_nil, List.all, Value.oneCell', Lf.clean, Bool.and_true, Bool.and_self, PV.int?, Int.reduceLE, Int.reduceLT, Int.reduceToNat, cellsL, onesL, Int.cast_ofNat_Int, Int.toNat_zero, Nat.zero_mul, bound?, Nat.le_refl, Nat.zero_le, List.all_cons, List.all_nil, List.map_cons, List.map_nil, List.toList_toArray, Array.toList, pr_add, pr_sub, pr_mul, pr_and, pr_or, pr_xor, pr_andNot, pr_lss, pr_leq, pr_gtr, pr_geq, pr_eql, pr_neq, pr_not, pr_neg, pr_min2, pr_max2, pr_min4, pr_max4, callP, argsOf, objsIn, objsOut, List.contains, List.elem, PV.clean, PV.clean.cleanL, List.isEmpty, Bool.or_true, Bool.true_or, Bool.not_false, Bool.not_true, List.zip, List.zipWith, List.length_append, List.isEmpty_nil, Bool.false_or, mk_eta, eq35, eqb4, IntWalk.i64_in, Int.reduceNeg, Int.reduceAdd, Int.reduceToNat, on_all, is_all, empty_all, in_all, meet_all, minus_all, area_all, same_all, sliceV, eq_self, Int.reduceBEq, Bool.not_true, Bool.not_false, kn1, kn2, kn3, kn4, kn5, kn6, kn7, kn8, kn9, kn10] <;> with_reducible rfl))
    | (apply EvO.go_; (· simp only [ofl_cons, ofl_nil, oflO_cons, oflO_nil, reduceIte, Nat.reduceEqDiff, Nat.reduceAdd, Nat.reduceMul, Nat.reduceSub, Nat.reduceLeDiff, Nat.reduceBEq, Nat.one_ne_zero, Nat.zero_ne_one, Bool.false_eq_true, decide_true, decide_false, true_and, and_true, and_self, beq_self_eq_true]; done); (· simp only [ofl_cons, ofl_nil, oflO_cons, oflO_nil, reduceIte, Nat.reduceEqDiff, Nat.reduceAdd, Nat.reduceMul, Nat.reduceSub, Nat.reduceLeDiff, Nat.reduceBEq, Nat.one_ne_zero, Nat.zero_ne_one, Bool.false_eq_true, decide_true, decide_false, true_and, and_true, and_self, beq_self_eq_true, eff, St.ev, PV.cells, upd_oflO, evs, List.map, PV.toVals, PV.toVal, Lf.toVal, Lf.toVals, PV.ofVal, rdc, Option.map, Option.some.injEq, Nat.zero_add, Nat.add_zero, List.getElem?_cons_zero, List.getElem?_cons_succ, List.getElem?_nil, List.drop, List.take, List.length, List.length_cons, List.length_nil, splice, fillP, List.append, List.nil_append, List.cons_append, List.append_nil, List.all, Value.oneCell', Lf.clean, Bool.and_true, Bool.and_self, PV.int?, Int.reduceLE, Int.reduceLT, Int.reduceToNat, cellsL, onesL, Int.cast_ofNat_Int, Int.toNat_zero, Nat.zero_mul, bound?, Nat.le_refl, Nat.zero_le, List.all_cons, List.all_nil, List.map_cons, List.map_nil, List.toList_toArray, Array.toList, pr_add, pr_sub, pr_mul, pr_and, pr_or, pr_xor, pr_andNot, pr_lss, pr_leq, pr_gtr, pr_geq, pr_eql, pr_neq, pr_not, pr_neg, pr_min2, pr_max2, pr_min4, pr_max4, callP, argsOf, objsIn, objsOut, List.contains, List.elem, PV.clean, PV.clean.cleanL, List.isEmpty, Bool.or_true, Bool.true_or, Bool.not_false, Bool.not_true, List.zip, List.zipWith, List.length_append, List.isEmpty_nil, Bool.false_or, mk_eta, eq35, eqb4, IntWalk.i64_in, Int.reduceNeg, Int.reduceAdd, Int.reduceToNat, on_all, is_all, empty_all, in_all, meet_all, minus_all, area_all, same_all, sliceV, eq_self, Int.reduceBEq, Bool.not_true, Bool.not_false, kn1, kn2, kn3, kn4, kn5, kn6, kn7, kn8, kn9, kn10] <;> with_reducible rfl))
    | (apply EvO.off (b' := true); (· simp only [ofl_cons, ofl_nil, oflO_cons, oflO_nil, reduceIte, Nat.reduceEqDiff, Nat.reduceAdd, Nat.reduceMul, Nat.reduceSub, Nat.reduceLeDiff, Nat.reduceBEq, Nat.one_ne_zero, Nat.zero_ne_one, Bool.false_eq_true, decide_true, decide_false, true_and, and_true, and_self, beq_self_eq_true]; done); (· decide))
    | (apply EvO.off (b' := false); (· simp only [ofl_cons, ofl_nil, oflO_cons, oflO_nil, reduceIte, Nat.reduceEqDiff, Nat.reduceAdd, Nat.reduceMul, Nat.reduceSub, Nat.reduceLeDiff, Nat.reduceBEq, Nat.one_ne_zero, Nat.zero_ne_one, Bool.false_eq_true, decide_true, decide_false, true_and, and_true, and_self, beq_self_eq_true]; done); (· decide))
    | (apply EvO.out; (· simp only [ofl_cons, ofl_nil, oflO_cons, oflO_nil, reduceIte, Nat.reduceEqDiff, Nat.reduceAdd, Nat.reduceMul, Nat.reduceSub, Nat.reduceLeDiff, Nat.reduceBEq, Nat.one_ne_zero, Nat.zero_ne_one, Bool.false_eq_true, decide_true, decide_false, true_and, and_true, and_self, beq_self_eq_true]; done))
    | (apply EvO.out_; (· simp only [ofl_cons, ofl_nil, oflO_cons, oflO_nil, reduceIte, Nat.reduceEqDiff, Nat.reduceAdd, Nat.reduceMul, Nat.reduceSub, Nat.reduceLeDiff, Nat.reduceBEq, Nat.one_ne_zero, Nat.zero_ne_one, Bool.false_eq_true, decide_true, decide_false, true_and, and_true, and_self, beq_self_eq_true]; done))
    | (apply EvO.split; (· simp only [ofl_cons, ofl_nil, oflO_cons, oflO_nil, reduceIte, Nat.reduceEqDiff, Nat.reduceAdd, Nat.reduceMul, Nat.reduceSub, Nat.reduceLeDiff, Nat.reduceBEq, Nat.one_ne_zero, Nat.zero_ne_one, Bool.false_eq_true, decide_true, decide_false, true_and, and_true, and_self, beq_self_eq_true] <;> with_reducible rfl); all_goals (intro ht; simp only [ht]))
    | (apply Ev.cond (t := true); (· simp only [St.ev, ofl_cons, ofl_nil, oflO_cons, oflO_nil, reduceIte, Nat.reduceEqDiff, Nat.reduceAdd, Nat.reduceMul, Nat.reduceSub, Nat.reduceLeDiff, Nat.reduceBEq, Nat.one_ne_zero, Nat.zero_ne_one, Bool.false_eq_true, decide_true, decide_false, true_and, and_true, and_self, beq_self_eq_true]; done))
    | (apply Ev.cond (t := false); (· simp only [St.ev, ofl_cons, ofl_nil, oflO_cons, oflO_nil, reduceIte, Nat.reduceEqDiff, Nat.reduceAdd, Nat.reduceMul, Nat.reduceSub, Nat.reduceLeDiff, Nat.reduceBEq, Nat.one_ne_zero, Nat.zero_ne_one, Bool.false_eq_true, decide_true, decide_false, true_and, and_true, and_self, beq_self_eq_true]; done))
    | (apply Ev.cond_split; (· simp only [St.ev, ofl_cons, ofl_nil, oflO_cons, oflO_nil, reduceIte, Nat.reduceEqDiff, Nat.reduceAdd, Nat.reduceMul, Nat.reduceSub, Nat.reduceLeDiff, Nat.reduceBEq, Nat.one_ne_zero, Nat.zero_ne_one, Bool.false_eq_true, decide_true, decide_false, true_and, and_true, and_self, beq_self_eq_true] <;> with_reducible rfl); all_goals (intro ht; simp only [ht]))
    | (apply fin_ev; (· simp only [ressOf, resOf, PV.freeze, Lf.freeze, freezeL, rdc, List.drop, List.take, List.length_cons, List.length_nil, Option.map, ofl_cons, ofl_nil, oflO_cons, oflO_nil, reduceIte, Nat.reduceEqDiff, Nat.reduceAdd, Nat.reduceMul, Nat.reduceSub, Nat.reduceLeDiff, Nat.reduceBEq, Nat.one_ne_zero, Nat.zero_ne_one, Bool.false_eq_true, decide_true, decide_false, true_and, and_true, and_self, beq_self_eq_true] <;> with_reducible rfl); (· simp only [backOf, freezeL, Lf.freeze, pbase, List.length_cons, List.length_nil, ofl_cons, ofl_nil, oflO_cons, oflO_nil, reduceIte, Nat.reduceEqDiff, Nat.reduceAdd, Nat.reduceMul, Nat.reduceSub, Nat.reduceLeDiff, Nat.reduceBEq, Nat.one_ne_zero, Nat.zero_ne_one, Bool.false_eq_true, decide_true, decide_false, true_and, and_true, and_self, beq_self_eq_true] <;> with_reducible rfl))
    )
  all_goals rfl

theorem empty_iff {r : R} : emptyB r = true ↔ (r.x1 ≤ r.x0 ∨ r.y1 ≤ r.y0) := by simp [emptyB]
theorem mx_le {a b c : Int} : mx a b ≤ c ↔ a ≤ c ∧ b ≤ c := by
  simp only [mx]; split <;> omega
theorem lt_mn {a b c : Int} : c < mn a b ↔ c < a ∧ c < b := by
  simp only [mn]; split <;> omega
theorem meet_comm (a b : R) : meetB a b = meetB b a := by
  have h1 : ∀ x y : Int, mx x y = mx y x := fun x y => by simp only [mx]; omega
  have h2 : ∀ x y : Int, mn x y = mn y x := fun x y => by simp only [mn]; omega
  simp only [meetB, h1 a.x0, h1 a.y0, h2 a.x1, h2 a.y1]
theorem tidy_tidy (a : R) : tidyB (tidyB a) = tidyB a := by
  by_cases h : emptyB a = true
  · simp [tidyB, h]
  · simp [tidyB, h]
theorem meet_self (a : R) : meetB a a = tidyB a := by
  have h1 : ∀ x : Int, mx x x = x := fun x => by simp [mx]
  have h2 : ∀ x : Int, mn x x = x := fun x => by simp [mn]
  simp only [meetB, h1, h2]
theorem meet_in (a b : R) (x y : Int) : inB (meetB a b) x y = (inB a x y && inB b x y) := by
  rw [Bool.eq_iff_iff]
  by_cases h : emptyB ⟨mx a.x0 b.x0, mx a.y0 b.y0, mn a.x1 b.x1, mn a.y1 b.y1⟩ = true
  · simp only [meetB, tidyB, if_pos h]
    simp only [empty_iff, mx, mn] at h
    simp only [inB, Bool.and_eq_true, decide_eq_true_eq]
    constructor
    · intro hh; omega
    · intro hh; exfalso
      rcases h with h | h
      · split at h <;> split at h <;> omega
      · split at h <;> split at h <;> omega
  · simp only [meetB, tidyB, if_neg h]
    simp only [inB, Bool.and_eq_true, decide_eq_true_eq, mx_le, lt_mn]
    constructor
    · intro hh; omega
    · intro hh; omega
theorem meet_assoc (a b c : R) : meetB (meetB a b) c = meetB a (meetB b c) := by
  by_cases h1 : emptyB ⟨mx a.x0 b.x0, mx a.y0 b.y0, mn a.x1 b.x1, mn a.y1 b.y1⟩ = true
  · have e1 : meetB a b = ⟨0, 0, 0, 0⟩ := by simp only [meetB, tidyB, if_pos h1]
    by_cases h2 : emptyB ⟨mx b.x0 c.x0, mx b.y0 c.y0, mn b.x1 c.x1, mn b.y1 c.y1⟩ = true
    · have e2 : meetB b c = ⟨0, 0, 0, 0⟩ := by simp only [meetB, tidyB, if_pos h2]
      rw [e1, e2, meet_comm]
      have z : ∀ r : R, meetB r ⟨0, 0, 0, 0⟩ = ⟨0, 0, 0, 0⟩ := fun r => by
        simp only [meetB, tidyB]
        rw [if_pos]
        simp only [empty_iff, mx, mn]
        omega
      rw [z, z]
    · have e2 : meetB b c = ⟨mx b.x0 c.x0, mx b.y0 c.y0, mn b.x1 c.x1, mn b.y1 c.y1⟩ := by simp only [meetB, tidyB, if_neg h2]
      rw [e1, e2]
      simp only [meetB, tidyB]
      rw [if_pos, if_pos]
      · simp only [empty_iff, mx, mn] at h1 ⊢; omega
      · simp only [empty_iff, mx, mn] at h1 ⊢; omega
  · have e1 : meetB a b = ⟨mx a.x0 b.x0, mx a.y0 b.y0, mn a.x1 b.x1, mn a.y1 b.y1⟩ := by simp only [meetB, tidyB, if_neg h1]
    by_cases h2 : emptyB ⟨mx b.x0 c.x0, mx b.y0 c.y0, mn b.x1 c.x1, mn b.y1 c.y1⟩ = true
    · have e2 : meetB b c = ⟨0, 0, 0, 0⟩ := by simp only [meetB, tidyB, if_pos h2]
      rw [e1, e2]
      simp only [meetB, tidyB]
      rw [if_pos, if_pos]
      · simp only [empty_iff, mx, mn] at h2 ⊢; omega
      · simp only [empty_iff, mx, mn] at h2 ⊢; omega
    · have e2 : meetB b c = ⟨mx b.x0 c.x0, mx b.y0 c.y0, mn b.x1 c.x1, mn b.y1 c.y1⟩ := by simp only [meetB, tidyB, if_neg h2]
      rw [e1, e2]
      have a1 : ∀ x y z : Int, mx (mx x y) z = mx x (mx y z) := fun x y z => by simp only [mx]; omega
      have a2 : ∀ x y z : Int, mn (mn x y) z = mn x (mn y z) := fun x y z => by simp only [mn]; omega
      simp only [meetB, a1, a2]
theorem minus_meet (a b : R) : minusL (meetB a b) a = [] := by
  unfold minusL
  by_cases h : emptyB (meetB a b) = true
  · rw [if_pos h]
  · rw [if_neg h]
    have e : meetB (meetB a b) a = meetB a b := by
      rw [meet_comm a b, meet_assoc, meet_self]
      by_cases h2 : emptyB a = true
      · exfalso; apply h
        by_cases h4 : emptyB ⟨mx a.x0 b.x0, mx a.y0 b.y0, mn a.x1 b.x1, mn a.y1 b.y1⟩ = true
        · simp only [meetB, tidyB, if_pos h4]; rfl
        · exfalso; apply h4
          simp only [empty_iff, mx, mn] at h2 ⊢; omega
      · simp only [tidyB, if_neg h2, meet_comm b a]
    have h3 : meetB a b ≠ ⟨0, 0, 0, 0⟩ := by
      intro hz; rw [hz] at h; exact h rfl
    rw [e, if_neg h3]
    have q1 : emptyB ⟨(meetB a b).x0, (meetB a b).y0, (meetB a b).x1, (meetB a b).y0⟩ = true := by simp [emptyB]
    have q2 : emptyB ⟨(meetB a b).x0, (meetB a b).y1, (meetB a b).x1, (meetB a b).y1⟩ = true := by simp [emptyB]
    have q3 : emptyB ⟨(meetB a b).x0, (meetB a b).y0, (meetB a b).x0, (meetB a b).y1⟩ = true := by simp [emptyB]
    have q4 : emptyB ⟨(meetB a b).x1, (meetB a b).y0, (meetB a b).x1, (meetB a b).y1⟩ = true := by simp [emptyB]
    simp [List.filter, q1, q2, q3, q4]

theorem meets_all (a0 a1 a2 a3 : Int) (b0 b1 b2 b3 : Int) (c0 c1 c2 c3 : Int) (x y : Int) : D 9 [.agg [.val (.int .i64 a0), .val (.int .i64 a1), .val (.int .i64 a2), .val (.int .i64 a3)], .agg [.val (.int .i64 b0), .val (.int .i64 b1), .val (.int .i64 b2), .val (.int .i64 b3)], .agg [.val (.int .i64 c0), .val (.int .i64 c1), .val (.int .i64 c2), .val (.int .i64 c3)], .agg [.val (.int .i64 x), .val (.int .i64 y)]] [] = some (.one (.val (.bool true)), []) := by
  refine all_fn (n := 0) (pf := pc9) rfl (Nat.le_of_ble_eq_true rfl) ?_
  change evBody Try.prog D 0 pc9 _ _ = _
  have m1 : meetB ⟨b0, b1, b2, b3⟩ ⟨a0, a1, a2, a3⟩ = meetB ⟨a0, a1, a2, a3⟩ ⟨b0, b1, b2, b3⟩ := meet_comm _ _
  have m2 : meetB ⟨a0, a1, a2, a3⟩ (meetB ⟨b0, b1, b2, b3⟩ ⟨c0, c1, c2, c3⟩) = meetB (meetB ⟨a0, a1, a2, a3⟩ ⟨b0, b1, b2, b3⟩) ⟨c0, c1, c2, c3⟩ := (meet_assoc _ _ _).symm
  have m3 : tidyB (meetB ⟨a0, a1, a2, a3⟩ ⟨a0, a1, a2, a3⟩) = tidyB ⟨a0, a1, a2, a3⟩ := by rw [meet_self, tidy_tidy]
  have m4 : inB (meetB ⟨a0, a1, a2, a3⟩ ⟨b0, b1, b2, b3⟩) x y = (inB ⟨a0, a1, a2, a3⟩ x y && inB ⟨b0, b1, b2, b3⟩ x y) := meet_in _ _ _ _
  have m5 : minusL (meetB ⟨a0, a1, a2, a3⟩ ⟨b0, b1, b2, b3⟩) ⟨a0, a1, a2, a3⟩ = [] := minus_meet _ _
  refine body_ev ?_
  simp only [pc9, ini, iniO]
  repeat' (first
    | apply Ev.seq
    | (apply Ev.region; (· simp only [ofl_cons, ofl_nil, oflO_cons, oflO_nil, reduceIte, Nat.reduceEqDiff, Nat.reduceAdd, Nat.reduceMul, Nat.reduceSub, Nat.reduceLeDiff, Nat.reduceBEq, Nat.one_ne_zero, Nat.zero_ne_one, Bool.false_eq_true, decide_true, decide_false, true_and, and_true, and_self, beq_self_eq_true, St.restrict, restrict', liveO, List.filter, List.all, List.any, List.map, PV.ment, Lf.ment, Lf.ment.mentL, PV.refsIn, Lf.refsIn, Lf.refsIn.refsInL, Ob.refsIn, pbase, List.contains, List.elem, Bool.or_false, Bool.false_or, Bool.and_true, Bool.true_and, Bool.and_self, Bool.or_true, Bool.true_or, Bool.or_self, Bool.and_false] <;> with_reducible rfl))
    | apply EvO.nil
    | apply EvO.nil_block
    | apply EvO.nil_end
    | (apply Ev.ret; apply endQ_ret)
    | (apply Ev.ret; apply thenQ_ret)
    | (apply Ev.ret; apply blockQ_ret)
    | apply endQ_ret
    | apply thenQ_ret
    | apply blockQ_ret
    | apply thenQ_normal
    | apply blockQ_normal
    | apply endQ_normal
    | apply thenQ_exit
    | apply blockQ_exit
    | (apply Ev.exit; apply thenQ_exit)
    | (apply Ev.exit; apply blockQ_exit)
    | apply Ev.skip
    | apply Ev.skip_block
    | apply Ev.skip_end
    | apply Ev.label
    | apply Ev.block
    | apply Ev.scope
    | apply Ev.loop
    | apply EvL.round
    | (apply EvO.op; (· simp only [ofl_cons, ofl_nil, oflO_cons, oflO_nil, reduceIte, Nat.reduceEqDiff, Nat.reduceAdd, Nat.reduceMul, Nat.reduceSub, Nat.reduceLeDiff, Nat.reduceBEq, Nat.one_ne_zero, Nat.zero_ne_one, Bool.false_eq_true, decide_true, decide_false, true_and, and_true, and_self, beq_self_eq_true, eff, St.ev, PV.cells, upd_oflO, evs, List.map, PV.toVals, PV.toVal, Lf.toVal, Lf.toVals, PV.ofVal, rdc, Option.map, Option.some.injEq, Nat.zero_add, Nat.add_zero, List.getElem?_cons_zero, List.getElem?_cons_succ, List.getElem?_nil, List.drop, List.take, List.length, List.length_cons, List.length_nil, splice, fillP, List.append, List.nil_append, List.cons_append, List.append_nil, List.all, Value.oneCell', Lf.clean, Bool.and_true, Bool.and_self, PV.int?, Int.reduceLE, Int.reduceLT, Int.reduceToNat, cellsL, onesL, Int.cast_ofNat_Int, Int.toNat_zero, Nat.zero_mul, bound?, Nat.le_refl, Nat.zero_le, List.all_cons, List.all_nil, List.map_cons, List.map_nil, List.toList_toArray, Array.toList, pr_add, pr_sub, pr_mul, pr_and, pr_or, pr_xor, pr_andNot, pr_lss, pr_leq, pr_gtr, pr_geq, pr_eql, pr_neq, pr_not, pr_neg, pr_min2, pr_max2, pr_min4, pr_max4, callP, argsOf, objsIn, objsOut, List.contains, List.elem, PV.clean, PV.clean.cleanL, List.isEmpty, Bool.or_true, Bool.true_or, Bool.not_false, Bool.not_true, List.zip, List.zipWith, List.length_append, List.isEmpty_nil, Bool.false_or, mk_eta, eq35, eqb4, IntWalk.i64_in, Int.reduceNeg, Int.reduceAdd, Int.reduceToNat, known_all, few_all, meet_all, same_all, in_all, minus_all, m1, m2, m3, m4, m5, sliceV, eq_self, Int.reduceBEq]; done))
    | (apply EvO.op; (· simp only [ofl_cons, ofl_nil, oflO_cons, oflO_nil, reduceIte, Nat.reduceEqDiff, Nat.reduceAdd, Nat.reduceMul, Nat.reduceSub, Nat.reduceLeDiff, Nat.reduceBEq, Nat.one_ne_zero, Nat.zero_ne_one, Bool.false_eq_true, decide_true, decide_false, true_and, and_true, and_self, beq_self_eq_true, eff, St.ev, PV.cells, upd_oflO, evs, List.map, PV.toVals, PV.toVal, Lf.toVal, Lf.toVals, PV.ofVal, rdc, Option.map, Option.some.injEq, Nat.zero_add, Nat.add_zero, List.getElem?_cons_zero, List.getElem?_cons_succ, List.getElem?_nil, List.drop, List.take, List.length, List.length_cons, List.length_nil, splice, fillP, List.append, List.nil_append, List.cons_append, List.append_nil, List.all, Value.oneCell', Lf.clean, Bool.and_true, Bool.and_self, PV.int?, Int.reduceLE, Int.reduceLT, Int.reduceToNat, cellsL, onesL, Int.cast_ofNat_Int, Int.toNat_zero, Nat.zero_mul, bound?, Nat.le_refl, Nat.zero_le, List.all_cons, List.all_nil, List.map_cons, List.map_nil, List.toList_toArray, Array.toList, pr_add, pr_sub, pr_mul, pr_and, pr_or, pr_xor, pr_andNot, pr_lss, pr_leq, pr_gtr, pr_geq, pr_eql, pr_neq, pr_not, pr_neg, pr_min2, pr_max2, pr_min4, pr_max4, callP, argsOf, objsIn, objsOut, List.contains, List.elem, PV.clean, PV.clean.cleanL, List.isEmpty, Bool.or_true, Bool.true_or, Bool.not_false, Bool.not_true, List.zip, List.zipWith, List.length_append, List.isEmpty_nil, Bool.false_or, mk_eta, eq35, eqb4, IntWalk.i64_in, Int.reduceNeg, Int.reduceAdd, Int.reduceToNat, known_all, few_all, meet_all, same_all, in_all, minus_all, m1, m2, m3, m4, m5, sliceV, eq_self, Int.reduceBEq] <;> with_reducible rfl))
    | (apply EvO.op_; (· simp only [ofl_cons, ofl_nil, oflO_cons, oflO_nil, reduceIte, Nat.reduceEqDiff, Nat.reduceAdd, Nat.reduceMul, Nat.reduceSub, Nat.reduceLeDiff, Nat.reduceBEq, Nat.one_ne_zero, Nat.zero_ne_one, Bool.false_eq_true, decide_true, decide_false, true_and, and_true, and_self, beq_self_eq_true, eff, St.ev, PV.cells, upd_oflO, evs, List.map, PV.toVals, PV.toVal, Lf.toVal, Lf.toVals, PV.ofVal, rdc, Option.map, Option.some.injEq, Nat.zero_add, Nat.add_zero, List.getElem?_cons_zero, List.getElem?_cons_succ, List.getElem?_nil, List.drop, List.take, List.length, List.length_cons, List.length_nil, splice, fillP, List.append, List.nil_append, List.cons_append, List.append_nil, List.all, Value.oneCell', Lf.clean, Bool.and_true, Bool.and_self, PV.int?, Int.reduceLE, Int.reduceLT, Int.reduceToNat, cellsL, onesL, Int.cast_ofNat_Int, Int.toNat_zero, Nat.zero_mul, bound?, Nat.le_refl, Nat.zero_le, List.all_cons, List.all_nil, List.map_cons, List.map_nil, List.toList_toArray, Array.toList, pr_add, pr_sub, pr_mul, pr_and, pr_or, pr_xor, pr_andNot, pr_lss, pr_leq, pr_gtr, pr_geq, pr_eql, pr_neq, pr_not, pr_neg, pr_min2, pr_max2, pr_min4, pr_max4, callP, argsOf, objsIn, objsOut, List.contains, List.elem, PV.clean, PV.clean.cleanL, List.isEmpty, Bool.or_true, Bool.true_or, Bool.not_false, Bool.not_true, List.zip, List.zipWith, List.length_append, List.isEmpty_nil, Bool.false_or, mk_eta, eq35, eqb4, IntWalk.i64_in, Int.reduceNeg, Int.reduceAdd, Int.reduceToNat, known_all, few_all, meet_all, same_all, in_all, minus_all, m1, m2, m3, m4, m5, sliceV, eq_self, Int.reduceBEq] <;> with_reducible rfl))
    | (apply EvO.go; (· simp only [ofl_cons, ofl_nil, oflO_cons, oflO_nil, reduceIte, Nat.reduceEqDiff, Nat.reduceAdd, Nat.reduceMul, Nat.reduceSub, Nat.reduceLeDiff, Nat.reduceBEq, Nat.one_ne_zero, Nat.zero_ne_one, Bool.false_eq_true, decide_true, decide_false, true_and, and_true, and_self, beq_self_eq_true]; done); (· simp only [ofl_cons, ofl_nil, oflO_cons, oflO_nil, reduceIte, Nat.reduceEqDiff, Nat.reduceAdd, Nat.reduceMul, Nat.reduceSub, Nat.reduceLeDiff, Nat.reduceBEq, Nat.one_ne_zero, Nat.zero_ne_one, Bool.false_eq_true, decide_true, decide_false, true_and, and_true, and_self, beq_self_eq_true, eff, St.ev, PV.cells, upd_oflO, evs, List.map, PV.toVals, PV.toVal, Lf.toVal, Lf.toVals, PV.ofVal, rdc, Option.map, Option.some.injEq, Nat.zero_add, Nat.add_zero, List.getElem?_cons_zero, List.getElem?_cons_succ, List.getElem?_nil, List.drop, List.take, List.length, List.length_cons, List.length_nil, splice, fillP, List.append, List.nil_append, List.cons_append, List.append_nil, List.all, Value.oneCell', Lf.clean, Bool.and_true, Bool.and_self, PV.int?, Int.reduceLE, Int.reduceLT, Int.reduceToNat, cellsL, onesL, Int.cast_ofNat_Int, Int.toNat_zero, Nat.zero_mul, bound?, Nat.le_refl, Nat.zero_le, List.all_cons, List.all_nil, List.map_cons, List.map_nil, List.toList_toArray, Array.toList, pr_add, pr_sub, pr_mul, pr_and, pr_or, pr_xor, pr_andNot, pr_lss, pr_leq, pr_gtr, pr_geq, pr_eql, pr_neq, pr_not, pr_neg, pr_min2, pr_max2, pr_min4, pr_max4, callP, argsOf, objsIn, objsOut, List.contains, List.elem, PV.clean, PV.clean.cleanL, List.isEmpty, Bool.or_true, Bool.true_or, Bool.not_false, Bool.not_true, List.zip, List.zipWith, List.length_append, List.isEmpty_nil, Bool.false_or, mk_eta, eq35, eqb4, IntWalk.i64_in, Int.reduceNeg, Int.reduceAdd, Int.reduceToNat, known_all, few_all, meet_all, same_all, in_all, minus_all, m1, m2, m3, m4, m5, sliceV, eq_self, Int.reduceBEq] <;> with_reducible rfl))
    | (apply EvO.go_; (· simp only [ofl_cons, ofl_nil, oflO_cons, oflO_nil, reduceIte, Nat.reduceEqDiff, Nat.reduceAdd, Nat.reduceMul, Nat.reduceSub, Nat.reduceLeDiff, Nat.reduceBEq, Nat.one_ne_zero, Nat.zero_ne_one, Bool.false_eq_true, decide_true, decide_false, true_and, and_true, and_self, beq_self_eq_true]; done); (· simp only [ofl_cons, ofl_nil, oflO_cons, oflO_nil, reduceIte, Nat.reduceEqDiff, Nat.reduceAdd, Nat.reduceMul, Nat.reduceSub, Nat.reduceLeDiff, Nat.reduceBEq, Nat.one_ne_zero, Nat.zero_ne_one, Bool.false_eq_true, decide_true, decide_false, true_and, and_true, and_self, beq_self_eq_true, eff, St.ev, PV.cells, upd_oflO, evs, List.map, PV.toVals, PV.toVal, Lf.toVal, Lf.toVals, PV.ofVal, rdc, Option.map, Option.some.injEq, Nat.zero_add, Nat.add_zero, List.getElem?_cons_zero, List.getElem?_cons_succ, List.getElem?_nil, List.drop, List.take, List.length, List.length_cons, List.length_nil, splice, fillP, List.append, List.nil_append, List.cons_append, List.append_nil, List.all, Value.oneCell', Lf.clean, Bool.and_true, Bool.and_self, PV.int?, Int.reduceLE, Int.reduceLT, Int.reduceToNat, cellsL, onesL, Int.cast_ofNat_Int, Int.toNat_zero, Nat.zero_mul, bound?, Nat.le_refl, Nat.zero_le, List.all_cons, List.all_nil, List.map_cons, List.map_nil, List.toList_toArray, Array.toList, pr_add, pr_sub, pr_mul, pr_and, pr_or, pr_xor, pr_andNot, pr_lss, pr_leq, pr_gtr, pr_geq, pr_eql, pr_neq, pr_not, pr_neg, pr_min2, pr_max2, pr_min4, pr_max4, callP, argsOf, objsIn, objsOut, List.contains, List.elem, PV.clean, PV.clean.cleanL, List.isEmpty, Bool.or_true, Bool.true_or, Bool.not_false, Bool.not_true, List.zip, List.zipWith, List.length_append, List.isEmpty_nil, Bool.false_or, mk_eta, eq35, eqb4, IntWalk.i64_in, Int.reduceNeg, Int.reduceAdd, Int.reduceToNat, known_all, few_all, meet_all, same_all, in_all, minus_all, m1, m2, m3, m4, m5, sliceV, eq_self, Int.reduceBEq] <;> with_reducible rfl))
    | (apply EvO.off (b' := true); (· simp only [ofl_cons, ofl_nil, oflO_cons, oflO_nil, reduceIte, Nat.reduceEqDiff, Nat.reduceAdd, Nat.reduceMul, Nat.reduceSub, Nat.reduceLeDiff, Nat.reduceBEq, Nat.one_ne_zero, Nat.zero_ne_one, Bool.false_eq_true, decide_true, decide_false, true_and, and_true, and_self, beq_self_eq_true]; done); (· decide))
    | (apply EvO.off (b' := false); (· simp only [ofl_cons, ofl_nil, oflO_cons, oflO_nil, reduceIte, Nat.reduceEqDiff, Nat.reduceAdd, Nat.reduceMul, Nat.reduceSub, Nat.reduceLeDiff, Nat.reduceBEq, Nat.one_ne_zero, Nat.zero_ne_one, Bool.false_eq_true, decide_true, decide_false, true_and, and_true, and_self, beq_self_eq_true]; done); (· decide))
    | (apply EvO.out; (· simp only [ofl_cons, ofl_nil, oflO_cons, oflO_nil, reduceIte, Nat.reduceEqDiff, Nat.reduceAdd, Nat.reduceMul, Nat.reduceSub, Nat.reduceLeDiff, Nat.reduceBEq, Nat.one_ne_zero, Nat.zero_ne_one, Bool.false_eq_true, decide_true, decide_false, true_and, and_true, and_self, beq_self_eq_true]; done))
    | (apply EvO.out_; (· simp only [ofl_cons, ofl_nil, oflO_cons, oflO_nil, reduceIte, Nat.reduceEqDiff, Nat.reduceAdd, Nat.reduceMul, Nat.reduceSub, Nat.reduceLeDiff, Nat.reduceBEq, Nat.one_ne_zero, Nat.zero_ne_one, Bool.false_eq_true, decide_true, decide_false, true_and, and_true, and_self, beq_self_eq_true]; done))
    | (apply EvO.split; (· simp only [ofl_cons, ofl_nil, oflO_cons, oflO_nil, reduceIte, Nat.reduceEqDiff, Nat.reduceAdd, Nat.reduceMul, Nat.reduceSub, Nat.reduceLeDiff, Nat.reduceBEq, Nat.one_ne_zero, Nat.zero_ne_one, Bool.false_eq_true, decide_true, decide_false, true_and, and_true, and_self, beq_self_eq_true] <;> with_reducible rfl); all_goals (intro ht; simp only [ht]))
    | (apply Ev.cond (t := true); (· simp only [St.ev, ofl_cons, ofl_nil, oflO_cons, oflO_nil, reduceIte, Nat.reduceEqDiff, Nat.reduceAdd, Nat.reduceMul, Nat.reduceSub, Nat.reduceLeDiff, Nat.reduceBEq, Nat.one_ne_zero, Nat.zero_ne_one, Bool.false_eq_true, decide_true, decide_false, true_and, and_true, and_self, beq_self_eq_true]; done))
    | (apply Ev.cond (t := false); (· simp only [St.ev, ofl_cons, ofl_nil, oflO_cons, oflO_nil, reduceIte, Nat.reduceEqDiff, Nat.reduceAdd, Nat.reduceMul, Nat.reduceSub, Nat.reduceLeDiff, Nat.reduceBEq, Nat.one_ne_zero, Nat.zero_ne_one, Bool.false_eq_true, decide_true, decide_false, true_and, and_true, and_self, beq_self_eq_true]; done))
    | (apply Ev.cond_split; (· simp only [St.ev, ofl_cons, ofl_nil, oflO_cons, oflO_nil, reduceIte, Nat.reduceEqDiff, Nat.reduceAdd, Nat.reduceMul, Nat.reduceSub, Nat.reduceLeDiff, Nat.reduceBEq, Nat.one_ne_zero, Nat.zero_ne_one, Bool.false_eq_true, decide_true, decide_false, true_and, and_true, and_self, beq_self_eq_true] <;> with_reducible rfl); all_goals (intro ht; simp only [ht]))
    | (apply fin_ev; (· simp only [ressOf, resOf, PV.freeze, Lf.freeze, freezeL, rdc, List.drop, List.take, List.length_cons, List.length_nil, Option.map, ofl_cons, ofl_nil, oflO_cons, oflO_nil, reduceIte, Nat.reduceEqDiff, Nat.reduceAdd, Nat.reduceMul, Nat.reduceSub, Nat.reduceLeDiff, Nat.reduceBEq, Nat.one_ne_zero, Nat.zero_ne_one, Bool.false_eq_true, decide_true, decide_false, true_and, and_true, and_self, beq_self_eq_true] <;> with_reducible rfl); (· simp only [backOf, freezeL, Lf.freeze, pbase, List.length_cons, List.length_nil, ofl_cons, ofl_nil, oflO_cons, oflO_nil, reduceIte, Nat.reduceEqDiff, Nat.reduceAdd, Nat.reduceMul, Nat.reduceSub, Nat.reduceLeDiff, Nat.reduceBEq, Nat.one_ne_zero, Nat.zero_ne_one, Bool.false_eq_true, decide_true, decide_false, true_and, and_true, and_self, beq_self_eq_true] <;> with_reducible rfl))
    )
  all_goals first | rfl | (exfalso; simp_all; done)

end Go.Proofs.Ytdnfamkokhgdbaa
