/- No condition. -/
import Derived.Test.YthdabpmcojmhhaaProg
import Derived.Test.YthdabpmcojmhhaaRxBc
import Derived.Deep.RegionLaw
namespace Go.Proofs.Ythdabpmcojmhhaa
open Go Go.Rx Go.RowKit
set_option linter.unusedVariables false
theorem elem_info : (Try.prog.info? 54).map (fun i => (i.zero.map (·.cells.size), i.size)) = some (some 11, 11) := by kernel_rfl
theorem cell_at {w : World} {g : Nat} {cur : Array Value} {e : TypeId} {fz : Nat × Nat} (hg : w.heap[g]? = some (.cells cur e fz)) (j : Nat) (h : j < cur.size) : w.cell? ⟨g, j, none⟩ = some cur[j] := by
 rw [Lib.cell_of_heap hg]; simp [h]
theorem zero_one {z : Array Value} (h : ∀ u ∈ z.toList, u.oneCell' = true) (n : Nat) : ∀ u ∈ (Builtin.zeroCells z n).toList, u.oneCell' = true := by
 intro u hu
 simp only [Builtin.zeroCells, Array.toList_map, List.mem_map] at hu
 obtain ⟨i, hi, rfl⟩ := hu
 have hi' : i < n * z.size := by simpa using hi
 have hz : 0 < z.size := by
  rcases Nat.eq_zero_or_pos z.size with h0 | h0
  ·rw [h0] at hi'; omega
  ·exact h0
 have hm := Nat.mod_lt i hz
 rw [getElem!_pos z _ hm]
 exact h _ (by simp)
theorem clear_run (w : World) (t ty e : TypeId) (z : Value) (size : Nat) (ht : Try.prog.underlying t = some (.slice e)) (hv : ∀ w, (zeroValue e).run Try.prog w = .ok z w) (hz : z.cells.size = size) (hz1 : ∀ u ∈ z.cells.toList, u.oneCell' = true) (g o n c : Nat) (hn : 0 < n) (cur : Array Value)
  (hg : w.heap[g]? = some (.cells cur e (0, 0))) (hfit : o + n * size ≤ cur.size) :
  (Builtin.clear_ #[t] ty #[.slice (some ⟨g, o, none⟩) n c]).run Try.prog w = .ok (.tuple #[]) (w.setRow g (cur.toList.take o ++ (Builtin.zeroCells z.cells n).toList ++ cur.toList.drop (o + n * size)).toArray) := by
 have hl : (Builtin.zeroCells z.cells n).toList.length = n * size := by rw [yal, size_zeroCells, hz]
 have hst := run_storeCells_at Try.prog g o e (Builtin.zeroCells z.cells n).toList 0 cur w hg (by rw [hl]; simpa using hfit) (zero_one hz1 n)
 simp only [ybv, hl] at hst
 obtain ⟨m, rfl⟩ : ∃ m, n = m + 1 := ⟨n - 1, by omega⟩
 simp [Builtin.clear_, run_underlying ht, hv, hst]
theorem step_append_run {P : Program} {ops : Array Oper} {o : Oper} {a : Act} {w : World} {K : Act → World → Prop} {Q : Exit → Act → World → Prop} {E : Prop}
  (hg : o.guard = none) (d x : Operand) (dT sT : TypeId) (hop : o.op = Op.call { callee := Callee.builtin Builtin.append, args := #[d, x], argTypes := #[dT, sT] })
  (v u : Value) (hd : a.eval d = v) (hx : a.eval x = u) {v' : Value} {w' : World} (hr : (Builtin.append_ #[dT, sT] o.type #[v, u]).run P w = .ok v' w') (hK : K (a.put o.dst v') w') :
  if Region.wanted o (yielded ops a.tmps) = true then Oper.wp P o a w K Q else E := by
 have hw : Region.wanted o (yielded ops a.tmps) = true := by simp [Region.wanted, hg]
 rw [if_pos hw]
 unfold Oper.wp
 simp [execOp, hop, resolve, invoke, builtin, hd, hx, hr, Result.andThen]
 exact hK
theorem zv_cells : ∃ z, (∀ w, (zeroValue 54).run Try.prog w = .ok z w) ∧ z.cells.size = 11 ∧ ∀ u ∈ z.cells.toList, u.oneCell' = true := ⟨_, Try.zeroValue54, rfl, by decide⟩
structure Cutted (w w' : World) (g cap i j n : Nat) (cur : Array Value) : Prop where
 row : ∃ cur', w'.heap[g]? = some (.cells cur' 54 (0, 0)) ∧ cur'.size = cap * 11 ∧ cur'.toList.take ((n - (j - i)) * 11) = cur.toList.take (i * 11) ++ (cur.toList.drop (j * 11)).take ((n - j) * 11)
 st : Wst (fun k => k = g) w w'
set_option maxHeartbeats 4000000 in
set_option maxRecDepth 1000000 in
theorem delete_walk (g n cap i j : Nat) (cur : Array Value) (w : World) (hg : w.heap[g]? = some (.cells cur 54 (0, 0))) (h1c : ∀ u ∈ cur.toList.take (n * 11), u.oneCell' = true) (hn : n ≤ cap) (hcm : cap ≤ maxLen) (hcs : cur.size = cap * 11) (hij : i < j) (hj : j ≤ n) :
  Calls Try.prog 86 #[.slice (some ⟨g, 0, none⟩) n cap, .int .i64 i, .int .i64 j] w fun e w' => e = .returned (.slice (some ⟨g, 0, none⟩) (n - (j - i)) cap) ∧ Cutted w w' g cap i j n cur := by
 have hm9 : cap ≤ 9223372036854775807 := hcm
 obtain ⟨i0, hi0, hi1⟩ := Option.map_eq_some_iff.1 elem_info
 obtain ⟨z, hzv, hzs, hz1⟩ := zv_cells
 have his : i0.size = 11 := by simpa using congrArg Prod.snd hi1
 obtain ⟨news, hnews⟩ : ∃ news, news = (cur.toList.drop (j * 11)).take ((n - j) * 11) := ⟨_, rfl⟩
 have hlen : news.length = (n - j) * 11 := by
  rw [hnews, yam, ybm, yal, hcs]
  omega
 have hget : ∀ t u, news[t]? = some u → w.cell? ⟨g, j * 11 + t, none⟩ = some u := by
  intro t u hu
  have ht : t < (n - j) * 11 := by
   have := (yah.1 hu).1
   rwa [hlen] at this
  rw [hnews, yap, if_pos ht, ybe, yaw] at hu
  rw [Lib.cell_of_heap hg]; exact hu
 obtain ⟨A, hA, hsrc⟩ : ∃ A : Addr, (if cap = j then some (⟨g, 0, none⟩ : Addr) else some ⟨g, j * 11, none⟩) = some A ∧ Hid (∀ t u, news[t]? = some u → w.drew.cell? (A.add t) = some u) := by
  by_cases h : cap = j
  ·refine ⟨⟨g, 0, none⟩, by simp [h], fun t u hu => ?_⟩
   have hz0 : n - j = 0 := by omega
   have h0 : news.length = 0 := by rw [hlen, hz0, Nat.zero_mul]
   rw [List.length_eq_zero_iff.1 h0] at hu
   simp at hu
  ·exact ⟨⟨g, j * 11, none⟩, by simp [h], fun t u hu => by rw [Addr.add_lit]; exact hget t u hu⟩
 have s2 : ∀ u ∈ news, u.oneCell' = true := by
  intro u hu
  have e : news = (cur.toList.take (n * 11)).drop (j * 11) := by
   rw [hnews, List.drop_take]; congr 1; omega
  rw [e] at hu
  exact h1c u (List.mem_of_mem_drop hu)
 have hg' : w.drew.heap[g]? = some (.cells cur 54 (0, 0)) := hg
 have hap : ∀ c, (Builtin.append_ #[34, 34] 34 #[.slice (some ⟨g, 0, none⟩) i cap, .slice (some A) (n - j) c]).run Try.prog w.drew =
   .ok (.slice (some ⟨g, 0, none⟩) (i + (n - j)) cap) (w.drew.setRow g (cur.toList.take (i * 11) ++ news ++ cur.toList.drop (i * 11 + news.length)).toArray) := by
  intro c
  have := run_append_room (P := Try.prog) w.drew 34 34 54 i0 Try.underlying34 hi0 g i cap cur hg' A (n - j) c news (by rw [his]; exact hlen) hsrc.out s2 (by omega) (by rw [his, hlen, hcs, ← yas]; exact yaj _ (by omega))
  rw [his] at this
  exact this
 obtain ⟨cur1, hcur1⟩ : ∃ cur1, cur1 = (cur.toList.take (i * 11) ++ news ++ cur.toList.drop (i * 11 + news.length)).toArray := ⟨_, rfl⟩
 have hs1 : cur1.size = cap * 11 := by
  rw [hcur1]
  simp only [List.size_toArray, yae, yam, ybm, yal, hlen, hcs]
  omega
 obtain ⟨W1, hW1⟩ : ∃ W1, W1 = w.drew.setRow g cur1 := ⟨_, rfl⟩
 have hg1 : W1.heap[g]? = some (.cells cur1 54 (0, 0)) := by rw [hW1]; exact setRow_heap w.drew g cur cur1 54 (0, 0) hg'
 obtain ⟨zs, hzs2, hzl⟩ : ∃ zs : List Value, zs = (Builtin.zeroCells z.cells (n - (i + (n - j)))).toList ∧ zs.length = (j - i) * 11 := ⟨_, rfl, by rw [yal, size_zeroCells, hzs]; congr 1; omega⟩
 obtain ⟨cur2, hcur2⟩ : ∃ cur2, cur2 = (cur1.toList.take ((i + (n - j)) * 11) ++ zs ++ cur1.toList.drop ((i + (n - j)) * 11 + (n - (i + (n - j))) * 11)).toArray := ⟨_, rfl⟩
 obtain ⟨W2, hW2⟩ : ∃ W2, W2 = W1.setRow g cur2 := ⟨_, rfl⟩
 have hcl : ∀ ty c, (Builtin.clear_ #[34] ty #[.slice (some ⟨g, (i + (n - j)) * 11, none⟩) (n - (i + (n - j))) c]).run Try.prog W1 = .ok (.tuple #[]) W2 := by
  intro ty c
  rw [hW2, hcur2, hzs2]
  exact clear_run W1 34 ty 54 z 11 Try.underlying34 hzv hzs hz1 g _ _ c (by omega) cur1 hg1 (by rw [hs1]; omega)
 have hap2 : Hid (∀ c, (Builtin.append_ #[34, 34] 34 #[.slice (some ⟨g, 0, none⟩) i cap, .slice (some A) (n - j) c]).run Try.prog w.drew = .ok (.slice (some ⟨g, 0, none⟩) (i + (n - j)) cap) W1) := by
  intro c
  rw [hap c, hW1, hcur1]
 have fin : Cutted w W2 g cap i j n cur := by
  refine ⟨⟨cur2, ?_, ?_, ?_⟩, ?_⟩
  ·rw [hW2]; exact setRow_heap W1 g cur1 cur2 54 (0, 0) hg1
  ·rw [hcur2]
   simp only [List.size_toArray, yae, yam, ybm, yal, hzl, hs1]
   omega
  ·rw [hcur2]
   have h1 : n - (j - i) = i + (n - j) := by omega
   have l1 : (cur1.toList.take ((i + (n - j)) * 11)).length = (i + (n - j)) * 11 := by
    rw [yam, yal, hs1]; omega
   rw [h1, ybz, ybn (by omega), ybu (by omega), hcur1, ← hnews]
   have l2 : (cur.toList.take (i * 11) ++ news).length = (i + (n - j)) * 11 := by
    rw [yae, hlen, yam, yal, hcs]; omega
   rw [ybn (by omega), ybu (by omega)]
  ·rw [hW2, hW1]
   have h1 : Wst (fun _ => False) w w.drew := ⟨rfl, rfl, rfl, yai _, fun _ _ _ => rfl⟩
   have h2 : ∀ (w : World) (r : Array Value), Wst (fun k => k = g) w (w.setRow g r) := fun w r => ⟨rfl, rfl, rfl, by simp, fun k _ hk => setRow_other w g k r hk⟩
   exact (h1.trans (h2 w.drew cur1) (fun _ _ _ => id) (fun _ _ h => h)).trans (h2 _ _) (fun _ _ h => h) (fun _ _ h => h)
 have hic : i ≤ cap := by omega
 have hjc : j ≤ cap := by omega
 have fin2 : ∀ e : Ending, e = .returned (.slice (some ⟨g, 0, none⟩) (i + (n - j)) cap) → e = .returned (.slice (some ⟨g, 0, none⟩) (n - (j - i)) cap) ∧ Cutted w W2 g cap i j n cur := by
  intro e he
  have h1 : n - (j - i) = i + (n - j) := by omega
  exact ⟨by rw [he, h1], fin⟩
 clear hW1 hcur1 hs1 hg1 hap hg' hget hnews hlen hg hW2 hcur2 hzs2 hzl hzv hzs hz1 fin
 go_enter Try.func86, Try.ntmps86
 go_wp2_with fail
 go_region_law (refine step_append_run rfl (.tmp 22) (.tmp 25) 34 34 rfl (.slice (some ⟨g, 0, none⟩) i cap) (.slice (some A) (n - j) (cap - j)) (by simp [Act.eval, Act.put]) (by simp [Act.eval, Act.put]) (hap2.out _) ?_)
 go_wp2
 go_ret
 exact fin2 _ rfl
theorem delete_ok : DeleteWalk Try.prog 86 54 11 := by
 intro v n i j xs w hown h1c hij hjn hn
 rcases hown.2 with ⟨rfl, rfl⟩ | ⟨g, cap, cur, rfl, hg0, hg, hnc, hcm, hcs, htk⟩
 ·omega
 ·refine (delete_walk g n cap i j cur w hg (by rw [htk]; exact h1c) hnc hcm hcs hij hjn).mono ?_
  rintro e w' ⟨rfl, ⟨cur', hg', hs', ht'⟩, hst⟩
  have h1 := yaj 11 hnc
  have h2 := yaj 11 hjn
  have h3 := yaj 11 (Nat.le_of_lt hij)
  have h4 : (n - j) * 11 = n * 11 - j * 11 := Nat.sub_mul _ _ _
  have h5 : (n - (j - i)) * 11 = i * 11 + (n - j) * 11 := by rw [← yas]; congr 1; omega
  have e1 : xs.take (i * 11) = cur.toList.take (i * 11) := by rw [← htk, List.take_take]; congr 1; omega
  have e2 : xs.drop (j * 11) = (cur.toList.drop (j * 11)).take ((n - j) * 11) := by rw [← htk, List.drop_take, h4]
  refine ⟨_, rfl, ⟨?_, .inr ⟨g, cap, cur', rfl, ybs _, hg', by omega, hcm, hs', ?_⟩⟩, ⟨g, cap, rfl, rfl⟩, hst.mono (fun k hk => by rw [hk]; rfl)⟩
  ·rw [yae, yam, ybm, hown.1]; omega
  ·rw [ht', e1, e2]
end Go.Proofs.Ythdabpmcojmhhaa
