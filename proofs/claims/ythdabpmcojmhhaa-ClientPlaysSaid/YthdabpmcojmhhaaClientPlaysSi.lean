/- No condition. -/
import Derived.Test.YthdabpmcojmhhaaClientPlaysSd
import Derived.Test.YthdabpmcojmhhaaRxBc
import Derived.Lib.JoinLaws
import Derived.Lib.AppendZerosOnto
import Derived.Lib.Overlaps
import Derived.Laws.Externs
import Derived.Laws.IdiomCopy
namespace Go.Proofs.Ythdabpmcojmhhaa
open Go Go.Rx Go.RowKit
set_option linter.unusedVariables false
theorem ins_info0 : (Try.prog.info? 54).map (fun i => (i.zero.map (·.cells.size), i.size, i.bytes)) = some (some 11, 11, 120) := by kernel_rfl
theorem ins_info : ∃ i0 z, Try.prog.info? 54 = some i0 ∧ i0.zero = some z ∧ i0.size = 11 ∧ i0.bytes = 120 ∧ z.cells.size = 11 := by
 obtain ⟨i0, hi, h⟩ := Option.map_eq_some_iff.1 ins_info0
 simp only [Prod.mk.injEq] at h
 obtain ⟨h1, h2, h3⟩ := h
 obtain ⟨z, hz, hs⟩ := Option.map_eq_some_iff.1 h1
 exact ⟨i0, z, hi, hz, h2, h3, hs⟩
theorem zdw {P : Program} (w : World) {ops : Array Oper} {rest : List Oper} {o : Oper} {a : Act} {Q : Exit → Act → World → Prop} (hgd : o.guard = none) (d s : Operand) (t t' : TypeId)
  (ho : o.op = .call { callee := .builtin .copy, args := #[d, s], argTypes := #[t, t'] }) (v u : Value) (hd : a.eval d = v) (hs : a.eval s = u) {v' : Value} {w' : World}
  (hr : (Builtin.copy_ #[t, t'] o.type #[v, u]).run P w = .ok v' w') (h : wpList P ops Q rest (a.put o.dst v') w') : wpList P ops Q (o :: rest) a w :=
 wpList_plain hgd fun K hK => by
  unfold Oper.wp execOp
  simp only [ho, resolve, invoke, builtin, Sem.run_bind, Sem.run_pure, Result.andThen_ok, List.map_toArray, yan, yca, hd, hs, hr]
  exact hK _ _ h
theorem zfy {P : Program} {ops : Array Oper} {o : Oper} {a : Act} {w : World} {K : Act → World → Prop} {Q : Exit → Act → World → Prop} {E : Prop}
  (hg : o.guard = none) (d x : Operand) (dT sT : TypeId) (hop : o.op = Op.call { callee := Callee.builtin Builtin.copy, args := #[d, x], argTypes := #[dT, sT] })
  (v u : Value) (hd : a.eval d = v) (hx : a.eval x = u) {v' : Value} {w' : World} (hr : (Builtin.copy_ #[dT, sT] o.type #[v, u]).run P w = .ok v' w') (hK : K (a.put o.dst v') w') :
  if Region.wanted o (yielded ops a.tmps) = true then Oper.wp P o a w K Q else E := by
 have hw : Region.wanted o (yielded ops a.tmps) = true := by simp [Region.wanted, hg]
 rw [if_pos hw]
 unfold Oper.wp
 simp [execOp, hop, resolve, invoke, builtin, hd, hx, hr, Result.andThen]
 exact hK
theorem copy_row (w : World) (ty : TypeId) (g o dl dc : Nat) (cur : Array Value) (hg : w.heap[g]? = some (.cells cur 54 (0, 0))) (ad : Addr) (sl sc m : Nat) (hm : Nat.min sl dl = m) (news : List Value) (hl : news.length = m * 11)
  (hnews : ∀ j u, news[j]? = some u → w.cell? (ad.add j) = some u) (h1 : ∀ u ∈ news, u.oneCell' = true) (hfit : o + news.length ≤ cur.size) :
  (Builtin.copy_ #[34, 34] ty #[.slice (some ⟨g, o, none⟩) dl dc, .slice (some ad) sl sc]).run Try.prog w = .ok (goInt m) (w.setRow g (cur.toList.take o ++ news ++ cur.toList.drop (o + news.length)).toArray) := by
 have hf := run_firstCells_some (P := Try.prog) w 11 m ad sl sc news hl hnews
 have hst := run_storeCells_at Try.prog g o 54 news 0 cur w hg (by simpa using hfit) h1
 simp only [ybv] at hst
 simp [Builtin.copy_, run_underlying Try.underlying34, Try.sizeOf54, Builtin.lenOf, hm, hf, hst]
theorem append_sharp (w : World) (v : Value) (n : Nat) (xs : List Value) (hown : w.ownsRow 0 54 11 v n xs) (vb vc : Nat) (vs : List Value) (hvl : vs.length = 11) (hvs : ∀ j u, vs[j]? = some u → w.cell? ⟨vb, j, none⟩ = some u) (h1v : ∀ u ∈ vs, u.oneCell' = true)
  (hbig : (n + 1) * 120 ≤ 140737488355328) :
  ∃ v' w', (∀ ty, (Builtin.append_ #[34, 34] ty #[v, .slice (some ⟨vb, 0, none⟩) 1 vc]).run Try.prog w = .ok v' w') ∧ Inserted 54 11 w w' v v' n n xs vs := by
 obtain ⟨i0, z, hi, hz, hsz, hby, hzs⟩ := ins_info
 have hnews : ∀ j u, vs[j]? = some u → w.cell? ((⟨vb, 0, none⟩ : Addr).add j) = some u := fun j u hj => by rw [Addr.add_lit, ybk]; exact hvs j u hj
 have h63 : n + 1 ≤ maxLen := by simp only [maxLen]; omega
 obtain ⟨v', w', hr, ho, hgr, hnil⟩ := run_append_own (P := Try.prog) w 0 34 34 54 i0 z 11 120 Try.underlying34 hi hz hsz hby hzs (by decide) v n xs hown ⟨vb, 0, none⟩ 1 vc vs (by rw [hvl]) hnews h1v h63 hbig (ybs _)
 have hty : ∀ ty, (Builtin.append_ #[34, 34] ty #[v, .slice (some ⟨vb, 0, none⟩) 1 vc]).run Try.prog w = (Builtin.append_ #[34, 34] 34 #[v, .slice (some ⟨vb, 0, none⟩) 1 vc]).run Try.prog w := fun ty => rfl
 have hx : xs.take (n * 11) ++ vs ++ xs.drop (n * 11) = xs ++ vs := by
  rw [ybu (by rw [hown.1]; omega), ybc (by rw [hown.1]; omega), yci]
 refine ⟨v', w', fun ty => (hty ty).trans hr, by rw [hx]; exact ho, ?_, ⟨hgr.os, hgr.tape, hgr.output, hgr.size, fun k hk hn => hgr.block k hk hn⟩⟩
 rcases hown.2 with ⟨rfl, rfl⟩ | ⟨g, cap, cur, rfl, _, hgc, hnc, hcm, hcs, htake⟩
 ·have hx0 : xs = [] := yau (by simpa using hown.1)
  subst hx0
  obtain ⟨v2, w2, hr2, ho2, hg2, hn2⟩ := run_append_own (P := Try.prog) w w.heap.size 34 34 54 i0 z 11 120 Try.underlying34 hi hz hsz hby hzs (by decide) (.slice none 0 0) 0 [] (World.ownsRow_nil w w.heap.size 54 11) ⟨vb, 0, none⟩ 1 vc vs (by rw [hvl]) hnews h1v h63 hbig (yai _)
  rw [hr] at hr2
  injection hr2 with e1 e2
  subst e1; subst e2
  rcases ho2.2 with ⟨h1, h2⟩ | ⟨g, cap, cur, h1, h2, h3, _⟩
  ·omega
  ·exact ⟨g, cap, h1, .inr ⟨h2, heap_lt h3⟩⟩
 ·by_cases hroom : n + 1 ≤ cap
  ·have hr2 := run_append_room (P := Try.prog) w 34 34 54 i0 Try.underlying34 hi g n cap cur hgc ⟨vb, 0, none⟩ 1 vc vs (by rw [hvl, hsz]) hnews h1v hroom (by rw [hvl, hsz, hcs]; omega)
   rw [hr] at hr2
   injection hr2 with e1 e2
   exact ⟨g, cap, e1, .inl rfl⟩
  ·have holds : ∀ j u, xs[j]? = some u → w.cell? ((⟨g, 0, none⟩ : Addr).add j) = some u := hown.cells (g := g) rfl
   have hr2 := run_append_grow (P := Try.prog) w 34 34 54 i0 z Try.underlying34 hi hz ⟨g, 0, none⟩ n cap xs (by rw [hsz]; exact hown.1) holds ⟨vb, 0, none⟩ 1 vc vs (by rw [hvl, hsz]) hnews (by omega) (by simp only [maxLen] at h63; omega) (by rw [hby]; exact growslice_fits (by omega) (by omega))
   rw [hr] at hr2
   injection hr2 with e1 e2
   exact ⟨w.heap.size, _, e1, .inr ⟨yai _, by rw [e2]; simp⟩⟩
set_option maxHeartbeats 4000000 in
set_option maxRecDepth 1000000 in
theorem insert_end_nil (vb vc : Nat) (vs : List Value) (w : World) (hvl : vs.length = 11) (hvs : ∀ j u, vs[j]? = some u → w.cell? ⟨vb, j, none⟩ = some u) (h1v : ∀ u ∈ vs, u.oneCell' = true) :
  Calls Try.prog 84 #[.slice none 0 0, .int .i64 0, .slice (some ⟨vb, 0, none⟩) 1 vc] w fun e w' => ∃ v', e = .returned v' ∧ Inserted 54 11 w w' (.slice none 0 0) v' 0 0 [] vs := by
 obtain ⟨v', w', hr, hin⟩ := append_sharp w (.slice none 0 0) 0 [] (World.ownsRow_nil w 0 54 11) vb vc vs hvl hvs h1v (by decide)
 have fin : Hid (Inserted 54 11 w w' (.slice none 0 0) v' 0 0 [] vs) := hin
 clear hin hvs
 go_enter Try.func84, Try.ntmps84
 go_wp2_with (at_builtin; refine Lib.wpList_append_run _ rfl _ _ _ _ rfl _ _ rfl rfl _ _ (hr _) ?_)
 go_ret
 exact ⟨v', rfl, fin.out⟩
set_option maxHeartbeats 4000000 in
set_option maxRecDepth 1000000 in
theorem insert_end_row (g n cap vb vc : Nat) (xs vs : List Value) (w : World) (hown : w.ownsRow 0 54 11 (.slice (some ⟨g, 0, none⟩) n cap) n xs) (hnc : n ≤ cap) (hvl : vs.length = 11) (hvs : ∀ j u, vs[j]? = some u → w.cell? ⟨vb, j, none⟩ = some u) (h1v : ∀ u ∈ vs, u.oneCell' = true)
  (hbig : (n + 1) * 120 ≤ 140737488355328) :
  Calls Try.prog 84 #[.slice (some ⟨g, 0, none⟩) n cap, .int .i64 n, .slice (some ⟨vb, 0, none⟩) 1 vc] w fun e w' => ∃ v', e = .returned v' ∧ Inserted 54 11 w w' (.slice (some ⟨g, 0, none⟩) n cap) v' n n xs vs := by
 obtain ⟨v', w', hr, hin⟩ := append_sharp w (.slice (some ⟨g, 0, none⟩) n cap) n xs hown vb vc vs hvl hvs h1v hbig
 have fin : Hid (Inserted 54 11 w w' (.slice (some ⟨g, 0, none⟩) n cap) v' n n xs vs) := hin
 obtain ⟨A, hA⟩ : ∃ A : Addr, (if cap = n then some (⟨g, 0, none⟩ : Addr) else some ⟨g, n * 11, none⟩) = some A := by
  by_cases h : cap = n
  ·exact ⟨_, by rw [if_pos h]⟩
  ·exact ⟨_, by rw [if_neg h]⟩
 clear hin hvs hown
 go_enter Try.func84, Try.ntmps84
 go_wp2_with (at_builtin; refine Lib.wpList_append_run _ rfl _ _ _ _ rfl _ _ rfl rfl _ _ (hr _) ?_)
 go_ret
 exact ⟨v', rfl, fin.out⟩
theorem zga (w : World) (g : Nat) (r : Array Value) : Wst (fun k => k = g) w (w.setRow g r) := ⟨rfl, rfl, rfl, by simp, fun k _ hk => setRow_other w g k r hk⟩
set_option maxHeartbeats 4000000 in
set_option maxRecDepth 1000000 in
theorem insert_shift (g n cap i vb vc : Nat) (cur : Array Value) (vcs : Array Value) (tv : TypeId) (w : World) (hg : w.heap[g]? = some (.cells cur 54 (0, 0))) (hv : w.heap[vb]? = some (.cells vcs tv (0, 0))) (hgv : vb ≠ g) (hvl : vcs.size = 11)
  (hi : i < n) (hroom : n + 1 ≤ cap) (hcm : cap ≤ maxLen) (hcs : cur.size = cap * 11) (h1c : ∀ u ∈ cur.toList.take (n * 11), u.oneCell' = true) (h1v : ∀ u ∈ vcs.toList, u.oneCell' = true) :
  Calls Try.prog 84 #[.slice (some ⟨g, 0, none⟩) n cap, .int .i64 i, .slice (some ⟨vb, 0, none⟩) 1 vc] w fun e w' => ∃ v', e = .returned v' ∧ Inserted 54 11 w w' (.slice (some ⟨g, 0, none⟩) n cap) v' n i (cur.toList.take (n * 11)) vcs.toList := by
 have hm9 : cap ≤ 9223372036854775807 := hcm
 have hcl : cur.toList.length = cap * 11 := by rw [yal, hcs]
 have hvll : vcs.toList.length = 11 := by rw [yal, hvl]
 have hin : i * 11 + (n - i) * 11 = n * 11 := by rw [← yas]; congr 1; omega
 have hnc : n * 11 + 11 ≤ cap * 11 := by rw [← Nat.succ_mul]; exact yaj _ hroom
 have hi1 : (i + 1) * 11 = i * 11 + 11 := by rw [Nat.succ_mul]
 obtain ⟨news, hnews⟩ : ∃ news, news = (cur.toList.drop (i * 11)).take ((n - i) * 11) := ⟨_, rfl⟩
 have hnl : news.length = (n - i) * 11 := by rw [hnews, yam, ybm, hcl]; omega
 have hng : ∀ j u, news[j]? = some u → w.drew.cell? ((⟨g, i * 11, none⟩ : Addr).add j) = some u := by
  intro j u hu
  have hj : j < (n - i) * 11 := by
   have := (yah.1 hu).1
   rwa [hnl] at this
  rw [hnews, yap, if_pos hj, ybe, yaw] at hu
  rw [Addr.add_lit]
  have : w.drew.heap[g]? = some (.cells cur 54 (0, 0)) := hg
  rw [Lib.cell_of_heap this]; exact hu
 have h1n : ∀ u ∈ news, u.oneCell' = true := by
  intro u hu
  have e : news = (cur.toList.take (n * 11)).drop (i * 11) := by
   rw [hnews, List.drop_take]; congr 1; omega
  rw [e] at hu
  exact h1c u (List.mem_of_mem_drop hu)
 obtain ⟨cur1, hcur1⟩ : ∃ cur1, cur1 = (cur.toList.take ((i + 1) * 11) ++ news ++ cur.toList.drop ((i + 1) * 11 + news.length)).toArray := ⟨_, rfl⟩
 have hs1 : cur1.toList.length = cap * 11 := by
  rw [hcur1]
  simp only [yae, yam, ybm, hcl, hnl]
  omega
 obtain ⟨W1, hW1⟩ : ∃ W1, W1 = w.drew.setRow g cur1 := ⟨_, rfl⟩
 have hg1 : W1.heap[g]? = some (.cells cur1 54 (0, 0)) := by rw [hW1]; exact setRow_heap w.drew g cur cur1 54 (0, 0) hg
 have hv1 : W1.heap[vb]? = some (.cells vcs tv (0, 0)) := by rw [hW1, setRow_other _ _ _ _ hgv]; exact hv
 obtain ⟨cur2, hcur2⟩ : ∃ cur2, cur2 = (cur1.toList.take (i * 11) ++ vcs.toList ++ cur1.toList.drop (i * 11 + vcs.toList.length)).toArray := ⟨_, rfl⟩
 have hs2 : cur2.toList.length = cap * 11 := by
  rw [hcur2]
  simp only [yae, yam, ybm, hs1, hvll]
  omega
 obtain ⟨W2, hW2⟩ : ∃ W2, W2 = W1.setRow g cur2 := ⟨_, rfl⟩
 have hcp1 : ∀ ty dc sc, (Builtin.copy_ #[34, 34] ty #[.slice (some ⟨g, (i + 1) * 11, none⟩) (n - i) dc, .slice (some ⟨g, i * 11, none⟩) (n + 1 - i) sc]).run Try.prog w.drew = .ok (goInt ((n - i : Nat) : Int)) W1 := by
  intro ty dc sc
  rw [hW1, hcur1]
  exact copy_row w.drew ty g ((i + 1) * 11) (n - i) dc cur hg ⟨g, i * 11, none⟩ (n + 1 - i) sc (n - i) (by simp only [Nat.min_def]; split <;> omega) news hnl hng h1n (by rw [hnl, hcs]; omega)
 have hcp2 : ∀ ty dc, (Builtin.copy_ #[34, 34] ty #[.slice (some ⟨g, i * 11, none⟩) (n + 1 - i) dc, .slice (some ⟨vb, 0, none⟩) 1 vc]).run Try.prog W1 = .ok (goInt 1) W2 := by
  intro ty dc
  rw [hW2, hcur2]
  refine copy_row W1 ty g (i * 11) (n + 1 - i) dc cur1 hg1 ⟨vb, 0, none⟩ 1 vc 1 (by simp only [Nat.min_def]; split <;> omega) vcs.toList (by rw [hvll]) ?_ h1v (by rw [hvll, ← yal, hs1]; omega)
  intro j u hu
  rw [Addr.add_lit, ybk, Lib.cell_of_heap hv1]
  rwa [yaw] at hu
 have hov : ∀ lb cb, (callFunc 93 #[.slice (some ⟨vb, 0, none⟩) 1 vc, .slice (some ⟨g, (i + 1) * 11, none⟩) lb cb]).run Try.prog w = .ok (.value (.bool false)) w := fun lb cb => by
  rw [run_callFunc_extern Try.func93 (by kernel_rfl) (by kernel_rfl) (by kernel_rfl) (e := Extern.SlicesOverlaps.overlaps #[34, 34] #[4]) (by kernel_rfl),
   Lib.run_overlaps_apart w 34 4 54 Try.underlying34 11 Try.sizeOf54 ⟨vb, 0, none⟩ ⟨g, (i + 1) * 11, none⟩ 1 vc lb cb hgv tv 54 vcs.size cur.size (by simp [World.shape?, hv]) (by simp [World.shape?, hg]) (by omega) (Lib.frozen_of_heap hv 0) (Lib.frozen_of_heap hv _)]
  rfl
 have fin : Inserted 54 11 w W2 (.slice (some ⟨g, 0, none⟩) n cap) (.slice (some ⟨g, 0, none⟩) (n + 1) cap) n i (cur.toList.take (n * 11)) vcs.toList := by
  have hgl := heap_lt hg
  refine ⟨⟨?_, .inr ⟨g, cap, cur2, rfl, ybs _, ?_, hroom, hcm, ?_, ?_⟩⟩, ⟨g, cap, rfl, .inl rfl⟩, ?_⟩
  ·simp only [yae, yam, ybm, hcl, hvll]
   omega
  ·rw [hW2]; exact setRow_heap W1 g cur1 cur2 54 (0, 0) hg1
  ·rw [← yal, hs2]
  ·have hd1 : cur1.toList.drop (i * 11 + 11) = news ++ cur.toList.drop ((i + 1) * 11 + news.length) := by
    rw [hcur1]
    simp only [ybz]
    rw [List.drop_append_of_le_length (by rw [yam, hcl]; omega), ybc (by rw [yam]; omega), ybw]
   have ht1 : cur1.toList.take (i * 11) = cur.toList.take (i * 11) := by
    rw [hcur1]
    simp only [ybz]
    rw [ybn (by rw [yam, hcl]; omega), List.take_take]
    congr 1; omega
   rw [hcur2]
   simp only [hvll, hd1, ht1]
   have lt : (cur.toList.take (i * 11)).length = i * 11 := by rw [yam, hcl]; omega
   have e1 : (n + 1) * 11 = i * 11 + 11 + news.length := by rw [hnl, Nat.succ_mul]; omega
   have e2 : (cur.toList.take (n * 11)).take (i * 11) = cur.toList.take (i * 11) := by rw [List.take_take]; congr 1; omega
   have e3 : (cur.toList.take (n * 11)).drop (i * 11) = news := by
    rw [hnews, List.drop_take]; congr 1; omega
   rw [e2, e3, e1]
   simp only [← ybz]
   rw [ybn (by simp only [yae, lt, hvll]; omega), ybu (by simp only [yae, lt, hvll]; omega)]
  ·rw [hW2, hW1]
   have h1 : Wst (fun _ => False) w w.drew := ⟨rfl, rfl, rfl, yai _, fun _ _ _ => rfl⟩
   have h2 := (h1.trans (T'' := fun k => k = g) (zga w.drew g cur1) (fun _ _ _ => id) (fun _ _ h => h)).trans (T'' := fun k => k = g) (zga _ g cur2) (fun _ _ h => h) (fun _ _ h => h)
   exact h2.mono (fun k hk => by rw [hk]; rfl)
 have fin2 : Hid (Inserted 54 11 w W2 (.slice (some ⟨g, 0, none⟩) n cap) (.slice (some ⟨g, 0, none⟩) (n + 1) cap) n i (cur.toList.take (n * 11)) vcs.toList) := fin
 have hz2 : ¬ ((i : Int) = (n : Int)) := by omega
 have hw1 : IntKind.i64.wrap ((i : Int) + 1) = (i : Int) + 1 := by rw [IntKind.wrap_i64]; omega
 have hw2 : IntKind.i64.wrap ((n : Int) + 1) = (n : Int) + 1 := by rw [IntKind.wrap_i64]; omega
 have hb1 : (0 : Int) ≤ (i : Int) + 1 := by omega
 have hn1 : (0 : Int) ≤ (n : Int) + 1 := by omega
 have hn2 : ((n : Int) + 1).toNat = n + 1 := by omega
 have hn3 : (n : Int) + 1 ≤ (cap : Int) := by omega
 have hn4 : ¬ ((cap : Int) < (n : Int) + 1) := by omega
 have hin' : i ≤ n := by omega
 have htn : ((i : Int) + 1).toNat = i + 1 := by omega
 have hb2 : ¬ (cap = i + 1) := by omega
 have hb3 : (i : Int) ≤ (n : Int) + 1 := by omega
 have hb5 : (i : Int) + 1 ≤ (n : Int) + 1 := by omega
 have hb6 : i ≤ n + 1 := by omega
 have hb4 : ¬ (cap = i) := by omega
 clear fin hW2 hW1 hcur2 hcur1 hs1 hs2 hg1 hv1 hng h1n hnl hnews h1c h1v hg hv hcl hvll hin hnc hi1
 go_enter Try.func84, Try.ntmps84
 go_wp2_with (simp only [hov])
 go_region_law (refine zfy rfl _ _ 34 34 rfl _ _ (by simp [Act.eval, Act.put]) (by simp [Act.eval, Act.put]) (hcp1 _ _ _) ?_)
 go_wp2_with (at_builtin; refine zdw _ rfl _ _ 34 34 rfl _ _ rfl rfl (hcp2 _ _) ?_)
 go_ret
 exact ⟨_, rfl, fin2.out⟩
set_option maxHeartbeats 4000000 in
set_option maxRecDepth 1000000 in
theorem insert_grow (g n cap i vb vc : Nat) (cur : Array Value) (vcs : Array Value) (tv : TypeId) (w : World) (hg : w.heap[g]? = some (.cells cur 54 (0, 0))) (hv : w.heap[vb]? = some (.cells vcs tv (0, 0))) (hgv : vb ≠ g) (hvl : vcs.size = 11)
  (hi : i < n) (hnc : n ≤ cap) (hroom : cap < n + 1) (hcs : cur.size = cap * 11) (h1c : ∀ u ∈ cur.toList.take (n * 11), u.oneCell' = true) (h1v : ∀ u ∈ vcs.toList, u.oneCell' = true) (hbig : (n + 1) * 120 ≤ 140737488355328) :
  Calls Try.prog 84 #[.slice (some ⟨g, 0, none⟩) n cap, .int .i64 i, .slice (some ⟨vb, 0, none⟩) 1 vc] w fun e w' => ∃ v', e = .returned v' ∧ Inserted 54 11 w w' (.slice (some ⟨g, 0, none⟩) n cap) v' n i (cur.toList.take (n * 11)) vcs.toList := by
 obtain ⟨i0, z, hi0, hz, hsz, hby, hzs⟩ := ins_info
 have hcl : cur.toList.length = cap * 11 := by rw [yal, hcs]
 have hvll : vcs.toList.length = 11 := by rw [yal, hvl]
 have hin : i * 11 + (n - i) * 11 = n * 11 := by rw [← yas]; congr 1; omega
 have hncs : n * 11 ≤ cap * 11 := yaj _ hnc
 have hi1 : (i + 1) * 11 = i * 11 + 11 := by rw [Nat.succ_mul]
 have hn1 : (n + 1) * 11 = n * 11 + 11 := by rw [Nat.succ_mul]
 have hgl := heap_lt hg
 have hvbl := heap_lt hv
 obtain ⟨G, hG⟩ : ∃ G, G = grownCap w (n + 1) cap 54 := ⟨_, rfl⟩
 have hGn : n + 1 ≤ G := by rw [hG]; exact grownCap_ge w _ _ _
 have hGm : G ≤ maxLen := by rw [hG]; exact grownCap_le_maxLen w (n + 1) cap 54 (by simp only [maxLen]; omega)
 have hGs : (n + 1) * 11 ≤ G * 11 := yaj _ hGn
 have hik : i + (n + 1 - i) = n + 1 := by omega
 have hkk : (n : Int) + 1 - (i : Int) = ((n + 1 - i : Nat) : Int) := by omega
 have hold : (Builtin.firstCells i0.size i (.slice (some ⟨g, 0, none⟩) i cap)).run Try.prog w.drew = .ok (cur.toList.take (i * 11)).toArray w.drew := by
  rw [hsz]
  refine run_firstCells_some w.drew 11 i ⟨g, 0, none⟩ i cap _ (by rw [yam, hcl]; omega) (fun j u hj => ?_)
  rw [Addr.add_lit, ybk]
  have : w.drew.heap[g]? = some (.cells cur 54 (0, 0)) := hg
  rw [Lib.cell_of_heap this]
  rw [yap] at hj
  split at hj
  ·rwa [yaw] at hj
  ·cases hj
 obtain ⟨ROW, hROW⟩ : ∃ ROW : Array Value, ROW = (cur.toList.take (i * 11)).toArray ++ Builtin.zeroCells z.cells (n + 1 - i) ++ Builtin.zeroCells z.cells (G - (n + 1)) := ⟨_, rfl⟩
 obtain ⟨W1, hW1⟩ : ∃ W1, W1 = w.drew.alloc (.cells ROW 54) := ⟨_, rfl⟩
 have hrz : ∀ ty, (Builtin.append_ #[34, 3] ty #[.slice (some ⟨g, 0, none⟩) i cap, .int .i64 ((n : Int) + 1 - (i : Int))]).run Try.prog w = .ok (.slice (some ⟨w.heap.size, 0, none⟩) (n + 1) G) W1 := by
  intro ty
  have h := Lib.run_append_grow_zeros (P := Try.prog) w 34 3 ty 54 i0 z .i64 .i64 Try.underlying34 Try.underlying3 hi0 hz (some ⟨g, 0, none⟩) i cap (cur.toList.take (i * 11)) hold (n + 1 - i) (by omega) (by rw [hsz]; decide) (by omega) (by omega) (by rw [hby]; omega) (by rw [hby, hik]; exact growslice_fits (by omega) hbig)
  rw [hik] at h
  rw [hkk, h, hW1, hROW, hG]
 have hRs : ROW.size = G * 11 := by
  rw [hROW]
  simp only [Array.size_append, List.size_toArray, yam, hcl, size_zeroCells, hzs]
  have : (G - (n + 1)) * 11 + (n + 1) * 11 = G * 11 := by rw [← yas]; congr 1; omega
  have : (n + 1 - i) * 11 + i * 11 = (n + 1) * 11 := by rw [← yas]; congr 1; omega
  omega
 have hg1 : W1.heap[w.heap.size]? = some (.cells ROW 54 (0, 0)) := by rw [hW1]; exact heap_alloc_new w.drew _
 have hv1 : W1.heap[vb]? = some (.cells vcs tv (0, 0)) := by rw [hW1, heap_alloc_old w.drew _ hvbl]; exact hv
 have hc1 : W1.heap[g]? = some (.cells cur 54 (0, 0)) := by rw [hW1, heap_alloc_old w.drew _ hgl]; exact hg
 obtain ⟨row1, hrow1⟩ : ∃ r, r = (ROW.toList.take (i * 11) ++ vcs.toList ++ ROW.toList.drop (i * 11 + vcs.toList.length)).toArray := ⟨_, rfl⟩
 have hr1 : row1.toList.length = G * 11 := by
  rw [hrow1]
  simp only [yae, yam, ybm, yal, hRs, hvl]
  omega
 obtain ⟨W2, hW2⟩ : ∃ W2, W2 = W1.setRow w.heap.size row1 := ⟨_, rfl⟩
 have hcpA : ∀ ty dc, (Builtin.copy_ #[34, 34] ty #[.slice (some ⟨w.heap.size, i * 11, none⟩) (n + 1 - i) dc, .slice (some ⟨vb, 0, none⟩) 1 vc]).run Try.prog W1 = .ok (goInt 1) W2 := by
  intro ty dc
  rw [hW2, hrow1]
  refine copy_row W1 ty w.heap.size (i * 11) (n + 1 - i) dc ROW hg1 ⟨vb, 0, none⟩ 1 vc 1 (by simp only [Nat.min_def]; split <;> omega) vcs.toList (by rw [hvll]) ?_ h1v (by rw [hvll, hRs]; omega)
  intro j u hu
  rw [Addr.add_lit, ybk, Lib.cell_of_heap hv1]
  rwa [yaw] at hu
 have hg2 : W2.heap[w.heap.size]? = some (.cells row1 54 (0, 0)) := by rw [hW2]; exact setRow_heap W1 _ ROW row1 54 (0, 0) hg1
 have hc2 : W2.heap[g]? = some (.cells cur 54 (0, 0)) := by rw [hW2, setRow_other _ _ _ _ (by omega)]; exact hc1
 obtain ⟨news, hnews⟩ : ∃ news, news = (cur.toList.drop (i * 11)).take ((n - i) * 11) := ⟨_, rfl⟩
 have hnl : news.length = (n - i) * 11 := by rw [hnews, yam, ybm, hcl]; omega
 have h1n : ∀ u ∈ news, u.oneCell' = true := by
  intro u hu
  have e : news = (cur.toList.take (n * 11)).drop (i * 11) := by
   rw [hnews, List.drop_take]; congr 1; omega
  rw [e] at hu
  exact h1c u (List.mem_of_mem_drop hu)
 obtain ⟨row2, hrow2⟩ : ∃ r, r = (row1.toList.take ((i + 1) * 11) ++ news ++ row1.toList.drop ((i + 1) * 11 + news.length)).toArray := ⟨_, rfl⟩
 obtain ⟨W3, hW3⟩ : ∃ W3, W3 = W2.drew.setRow w.heap.size row2 := ⟨_, rfl⟩
 have hcpB : ∀ ty dc sc, (Builtin.copy_ #[34, 34] ty #[.slice (some ⟨w.heap.size, (i + 1) * 11, none⟩) (n - i) dc, .slice (some ⟨g, i * 11, none⟩) (n - i) sc]).run Try.prog W2.drew = .ok (goInt ((n - i : Nat) : Int)) W3 := by
  intro ty dc sc
  rw [hW3, hrow2]
  refine copy_row W2.drew ty w.heap.size ((i + 1) * 11) (n - i) dc row1 hg2 ⟨g, i * 11, none⟩ (n - i) sc (n - i) (by simp only [Nat.min_def]; split <;> omega) news hnl ?_ h1n (by rw [hnl, ← yal, hr1]; omega)
  intro j u hu
  have hj : j < (n - i) * 11 := by
   have := (yah.1 hu).1
   rwa [hnl] at this
  rw [hnews, yap, if_pos hj, ybe, yaw] at hu
  rw [Addr.add_lit]
  have : W2.drew.heap[g]? = some (.cells cur 54 (0, 0)) := hc2
  rw [Lib.cell_of_heap this]; exact hu
 have hr2 : row2.toList.length = G * 11 := by
  rw [hrow2]
  simp only [yae, yam, ybm, hr1, hnl]
  omega
 have fin : Inserted 54 11 w W3 (.slice (some ⟨g, 0, none⟩) n cap) (.slice (some ⟨w.heap.size, 0, none⟩) (n + 1) G) n i (cur.toList.take (n * 11)) vcs.toList := by
  have hsz1 : W1.heap.size = w.heap.size + 1 := by rw [hW1]; simp
  refine ⟨⟨?_, .inr ⟨w.heap.size, G, row2, rfl, ybs _, ?_, hGn, hGm, ?_, ?_⟩⟩, ⟨w.heap.size, G, rfl, .inr ⟨yai _, ?_⟩⟩, ?_⟩
  ·simp only [yae, yam, ybm, hcl, hvll]
   omega
  ·rw [hW3]; exact setRow_heap W2.drew _ row1 row2 54 (0, 0) hg2
  ·rw [← yal, hr2]
  ·have lt : (cur.toList.take (i * 11)).length = i * 11 := by rw [yam, hcl]; omega
   have t1 : ROW.toList.take (i * 11) = cur.toList.take (i * 11) := by
    rw [hROW]
    simp only [Array.toList_append, ybz]
    rw [ybn (by rw [lt]; omega), ybu (by rw [lt]; omega)]
   have t2 : row1.toList.take ((i + 1) * 11) = cur.toList.take (i * 11) ++ vcs.toList := by
    rw [hrow1, t1]
    rw [ybn (by simp only [yae, lt, hvll]; omega), ybu (by simp only [yae, lt, hvll]; omega)]
   have e2 : (cur.toList.take (n * 11)).take (i * 11) = cur.toList.take (i * 11) := by rw [List.take_take]; congr 1; omega
   have e3 : (cur.toList.take (n * 11)).drop (i * 11) = news := by
    rw [hnews, List.drop_take]; congr 1; omega
   rw [hrow2, t2, e2, e3]
   rw [ybn (by simp only [yae, lt, hvll, hnl]; omega), ybu (by simp only [yae, lt, hvll, hnl]; omega)]
  ·rw [hW3, hW2]
   have : (W1.setRow w.heap.size row1).heap.size = W1.heap.size := by simp
   have h2 : ((W1.setRow w.heap.size row1).drew.setRow w.heap.size row2).heap.size = (W1.setRow w.heap.size row1).heap.size := by simp [World.drew]
   omega
  ·have h1 : Wst (fun _ => False) w W1 := by
    rw [hW1]
    exact ⟨rfl, rfl, rfl, by simp, fun k hk _ => heap_alloc_old w.drew _ hk⟩
   have h2 : Wst (fun k => k = w.heap.size) W1 W2 := by rw [hW2]; exact zga _ _ _
   have h3 : Wst (fun k => k = w.heap.size) W2 W3 := by
    rw [hW3]
    have h0 : Wst (fun _ => False) W2 W2.drew := ⟨rfl, rfl, rfl, yai _, fun _ _ _ => rfl⟩
    exact h0.trans (zga _ _ _) (fun _ _ _ => id) (fun _ _ h => h)
   exact ((h1.trans (T'' := fun _ => False) h2 (fun _ _ h => h) (fun x hx _ e => by omega)).trans (T'' := fun _ => False) h3 (fun _ _ h => h) (fun x hx _ e => by omega)).mono (fun _ h => h.elim)
 have fin2 : Hid (Inserted 54 11 w W3 (.slice (some ⟨g, 0, none⟩) n cap) (.slice (some ⟨w.heap.size, 0, none⟩) (n + 1) G) n i (cur.toList.take (n * 11)) vcs.toList) := fin
 have hz2 : ¬ ((i : Int) = (n : Int)) := by omega
 have hw1 : IntKind.i64.wrap ((i : Int) + 1) = (i : Int) + 1 := by rw [IntKind.wrap_i64]; omega
 have hw2 : IntKind.i64.wrap ((n : Int) + 1) = (n : Int) + 1 := by rw [IntKind.wrap_i64]; omega
 have hw3 : IntKind.i64.wrap ((n : Int) + 1 - (i : Int)) = (n : Int) + 1 - (i : Int) := by rw [IntKind.wrap_i64]; omega
 have hb1 : (0 : Int) ≤ (i : Int) + 1 := by omega
 have hz3 : (cap : Int) < (n : Int) + 1 := by omega
 have hin' : i ≤ n := by omega
 have htn : ((i : Int) + 1).toNat = i + 1 := by omega
 have hci : ¬ (cap = i) := by omega
 have hGi : ¬ (G = i) := by omega
 have hGim : ¬ (G = i + 1) := by omega
 have hb3 : (i : Int) ≤ (n : Int) + 1 := by omega
 have hb5 : (i : Int) + 1 ≤ (n : Int) + 1 := by omega
 have hb6 : i ≤ n + 1 := by omega
 have hic : i ≤ cap := by omega
 have hG9 : G ≤ 9223372036854775807 := hGm
 clear fin hW3 hrow2 hr2 hnews hnl h1n hg2 hc2 hW2 hrow1 hr1 hg1 hv1 hc1 hRs hW1 hROW hold hkk hik hG hGm hGs hgl hvbl hn1 hi1 hncs hin hcl hvll h1c h1v hg hv hi0 hz hsz hby hzs
 go_enter Try.func84, Try.ntmps84
 go_wp2_with (first
  | (at_builtin; refine Lib.wpList_append_run _ rfl _ _ _ _ rfl _ _ rfl rfl _ _ (hrz _) ?_)
  | (at_builtin; refine zdw _ rfl _ _ 34 34 rfl _ _ rfl rfl (hcpA _ _) ?_))
 go_region_law (refine zfy rfl _ _ 34 34 rfl _ _ (by simp [Act.eval, Act.put]) (by simp [Act.eval, Act.put]) (hcpB _ _ _) ?_)
 go_wp2
 go_ret
 exact ⟨_, rfl, fin2.out⟩
theorem insert_ok : InsertWalk Try.prog 84 54 11 := by
 intro v n i vb vc tv vcs xs w hown h1c hv hb hvs h1v hin hn
 have hbig : (n + 1) * 120 ≤ 140737488355328 := by omega
 have hvl : vcs.toList.length = 11 := by rw [yal, hvs]
 have hvc : ∀ j u, vcs.toList[j]? = some u → w.cell? ⟨vb, j, none⟩ = some u := by
  intro j u hj
  rw [Lib.cell_of_heap hv]
  rwa [yaw] at hj
 rcases hown.2 with ⟨rfl, rfl⟩ | ⟨g, cap, cur, rfl, hg0, hg, hnc, hcm, hcs, htk⟩
 ·have hx : xs = [] := yau (by simpa using hown.1)
  subst hx
  have hi0 : i = 0 := by omega
  subst hi0
  exact insert_end_nil vb vc vcs.toList w hvl hvc h1v
 ·have hgv : vb ≠ g := fun e => hb (by rw [e]; rfl)
  by_cases hi : i = n
  ·subst hi
   exact insert_end_row g i cap vb vc xs vcs.toList w hown hnc hvl hvc h1v hbig
  ·rw [← htk] at h1c ⊢
   by_cases hr : n + 1 ≤ cap
   ·exact insert_shift g n cap i vb vc cur vcs tv w hg hv hgv hvs (by omega) hr hcm hcs h1c h1v
   ·exact insert_grow g n cap i vb vc cur vcs tv w hg hv hgv hvs (by omega) hnc (by omega) hcs h1c h1v hbig
end Go.Proofs.Ythdabpmcojmhhaa
