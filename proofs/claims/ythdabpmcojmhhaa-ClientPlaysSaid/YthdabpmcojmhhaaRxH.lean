/- No condition. -/
import Derived.Test.YthdabpmcojmhhaaRxG
import Derived.Lib.ConvBytes
import Derived.Laws.BytesString
namespace Go.Rx
open Go Go.RowKit
section
variable {P : Program} {C : zaf} {w0 : World} {O0 : Nat → Option Ob} {E0 : Env} {I0 : Nat → Prop} {nt : Nat} {st : St} {E : Env} {I : Nat → Prop} {a : Act} {w : World}
theorem append_law (t ty e : TypeId) (i : TypeInfo) (z : Value) (ht : P.underlying t = some (.slice e)) (hi : P.info? e = some i) (hz : i.zero = some z) (hzs : z.cells.size = i.size) (hsz : 0 < i.size)
  (g n cap : Nat) (cur : Array Value) (xs : List Value) (hg : w.heap[g]? = some (.cells cur e (0, 0))) (hn : n ≤ cap) (hcm : cap ≤ maxLen) (hcs : cur.size = cap * i.size) (htk : cur.toList.take (n * i.size) = xs) (hxl : xs.length = n * i.size)
  (ad : Addr) (m c : Nat) (news : List Value) (hl : news.length = m * i.size) (hnews : ∀ j u, news[j]? = some u → w.cell? (ad.add j) = some u) (h1 : ∀ u ∈ news, u.oneCell' = true)
  (hm : n + m ≤ zae) (hb : (n + m) * i.bytes ≤ zae) :
  ∃ w' b' cap', (Builtin.append_ #[t, t] ty #[.slice (some ⟨g, 0, none⟩) n cap, .slice (some ad) m c]).run P w = .ok (.slice (some ⟨b', 0, none⟩) (n + m) cap') w' ∧
   (b' = g ∨ (w.heap.size ≤ b' ∧ b' < w'.heap.size)) ∧ w'.ownsRow 0 e i.size (.slice (some ⟨b', 0, none⟩) (n + m) cap') (n + m) (xs ++ news) ∧ Wst (fun b => b = g) w w' := by
 have hown : w.ownsRow 0 e i.size (.slice (some ⟨g, 0, none⟩) n cap) n xs := ⟨hxl, .inr ⟨g, cap, cur, rfl, ybs _, hg, hn, hcm, hcs, htk⟩⟩
 have hmx : zae ≤ maxLen := by simp only [zae, maxLen]; omega
 have hmy : zae ≤ 140737488355328 := by simp only [zae]; omega
 obtain ⟨v', w', hr, ho, hgr, _⟩ := run_append_own (P := P) w 0 t ty e i z i.size i.bytes ht hi hz rfl rfl hzs hsz _ n xs hown ad m c news hl hnews h1 (by omega) (by omega) (ybs _)
 by_cases hroom : n + m ≤ cap
 ·have hfit : n * i.size + news.length ≤ cur.size := by rw [hl, hcs, ← yas]; exact yaj _ hroom
  have hr2 := run_append_room (P := P) w t ty e i ht hi g n cap cur hg ad m c news hl hnews h1 hroom hfit
  rw [hr] at hr2
  injection hr2 with e1 e2
  subst e1
  exact ⟨w', g, cap, hr, .inl rfl, ho, (Wst.grown hgr).mono (fun b hb => by simpa [Value.ownBlock] using hb)⟩
 ·have holds : ∀ j u, xs[j]? = some u → w.cell? ((⟨g, 0, none⟩ : Addr).add j) = some u := hown.cells (g := g) rfl
  have h63 : ((n + m : Nat) : Int) ≤ 9223372036854775807 := by simp only [zae] at hm; omega
  have hr2 := run_append_grow (P := P) w t ty e i z ht hi hz ⟨g, 0, none⟩ n cap xs hxl holds ad m c news hl hnews (by omega) h63 (growslice_fits (by omega) (by omega))
  rw [hr] at hr2
  injection hr2 with e1 e2
  subst e1
  exact ⟨w', w.heap.size, _, hr, .inr ⟨yai _, by rw [e2]; simp⟩, ho, (Wst.grown hgr).mono (fun b hb => by simpa [Value.ownBlock] using hb)⟩
structure Src (I : Nat → Prop) (w : World) (sz m : Nat) (xget : Nat → List Lf) (base : Option Addr) (news : List Value) : Prop where
 len : news.length = m * sz
 one : ∀ u ∈ news, u.oneCell' = true
 nobase : base = none → m = 0
 cell : ∀ ad, base = some ad → ∀ j u, news[j]? = some u → w.cell? (ad.add j) = some u
 get : ∀ i, i < m → (xget i).length = sz ∧ ∀ j, j < sz → LRi I w ((xget i).getD j default) (news.getD (i * sz + j) undef)
theorem divmod (sz q : Nat) (_ : 0 < sz) : q / sz * sz + q % sz = q := by rw [Nat.mul_comm]; exact Nat.div_add_mod q sz
theorem idx_lt {i j n sz : Nat} (hi : i < n) (hj : j < sz) : i * sz + j < n * sz := by
 calc i * sz + j < i * sz + sz := by omega
  _ = (i + 1) * sz := by rw [yas, ybt]
  _ ≤ n * sz := yaj _ hi
theorem src_view {sz m cap : Nat} {xget : Nat → List Lf} {base : Option Addr} (hs : 0 < sz) (h : LRi I w (.view sz m xget) (.slice base m cap)) : ∃ news, Src I w sz m xget base news := by
 cases h with
 | view _ _ _ _ _ vv hcap hlen hb hel =>
  by_cases hm : m = 0
  ·subst hm
   exact ⟨[], by simp, by simp, fun _ => rfl, fun _ _ j u hu => by simp at hu, fun i hi => by omega⟩
  ·rcases hb with hb | ⟨b, o, rfl, hI, hcell⟩
   ·exact absurd hb hm
   ·have hq : ∀ q, q < m * sz → q / sz < m ∧ q % sz < sz := fun q hq => ⟨(Nat.div_lt_iff_lt_mul hs).2 hq, Nat.mod_lt _ hs⟩
    refine ⟨(List.range (m * sz)).map fun q => vv (q / sz) (q % sz), by simp, ?_, (fun h => by cases h), ?_, fun i hi => ⟨hlen i hi, fun j hj => ?_⟩⟩
    ·intro u hu
     simp only [List.mem_map, List.mem_range] at hu
     obtain ⟨q, hq', rfl⟩ := hu
     exact (hel _ (hq q hq').1 _ (hq q hq').2).one
    ·intro ad had j u hu
     injection had with had
     subst had
     have hj : j < m * sz := by
      have := (yah.1 hu).1
      simpa using this
     simp only [yay, List.getElem?_range hj, yaz, sj] at hu
     subst hu
     have := hcell _ (hq j hj).1 _ (hq j hj).2
     rw [zgq]
     rwa [divmod _ _ hs] at this
    ·have hlt := idx_lt hi hj
     have e : ((List.range (m * sz)).map fun q => vv (q / sz) (q % sz)).getD (i * sz + j) undef = vv i j := by
      rw [yaa]
      simp only [yay, List.getElem?_range hlt, yaz, Option.getD_some]
      rw [Nat.mul_comm i sz, Nat.mul_add_div hs, Nat.div_eq_of_lt hj, ybv, Nat.mul_add_mod, Nat.mod_eq_of_lt hj]
     rw [e]
     exact hel i hi j hj
theorem src_arr (h : Rel w0 O0 E0 I0 nt st E I a w) {k el sz g tot off m : Nat} {xget : Nat → List Lf} (hk : st.objs k = some (.arr el sz g tot xget)) (hnn : E.hv k ≠ .slice none 0 0) (hot : off + m ≤ tot) {o' : Nat} (ho : m = 0 ∨ o' = off * sz) :
  ∃ news, Src I w sz m (fun i => if i < m then xget (off + i) else []) (some ⟨E.bl k, o', none⟩) news := by
 obtain ⟨xs, cap, cur, _, _, e1, hb, hcap, hcs, _, htk, hxl, hs0, hgl, hc, hl⟩ := h.arr_at hk hnn
 by_cases hm0 : m = 0
 ·subst hm0
  exact ⟨[], by simp, by simp, fun _ => rfl, fun _ _ j u hu => by simp at hu, fun i hi => by omega⟩
 ·have ho : o' = off * sz := by rcases ho with h | h; exact absurd h hm0; exact h
  subst ho
  have hle : off * sz + m * sz ≤ tot * sz := by rw [← yas]; exact yaj _ hot
  have hlen : ((xs.drop (off * sz)).take (m * sz)).length = m * sz := by simp [hxl]; omega
  have hget : ∀ q, q < m * sz → ((xs.drop (off * sz)).take (m * sz))[q]? = some (xs.getD (off * sz + q) undef) := by
   intro q hq
   rw [yap, if_pos hq, ybe, yaa, yab (by omega)]; rfl
  have hq : ∀ q, q < m * sz → off + q / sz < tot ∧ q % sz < sz ∧ off * sz + q = (off + q / sz) * sz + q % sz := fun q hq =>
   ⟨by have := (Nat.div_lt_iff_lt_mul hs0).2 hq; omega, Nat.mod_lt _ hs0, by rw [yas, Nat.add_assoc, divmod _ _ hs0]⟩
  refine ⟨(xs.drop (off * sz)).take (m * sz), hlen, ?_, (fun h => by cases h), ?_, fun i hi => ⟨by rw [if_pos hi]; exact hgl _ (by omega), fun j hj => ?_⟩⟩
  ·intro u hu
   obtain ⟨q, hq', rfl⟩ := ybj hu
   rw [hlen] at hq'
   have := hget q hq'
   rw [yab (by omega)] at this
   injection this with this
   rw [this]
   obtain ⟨q1, q2, q3⟩ := hq q hq'
   rw [q3]
   exact (hl _ q1 _ q2).one
  ·intro ad had j u hu
   injection had with had
   subst had
   have hj : j < m * sz := by
    have := (yah.1 hu).1
    omega
   rw [hget j hj] at hu
   injection hu with hu
   subst hu
   obtain ⟨q1, q2, q3⟩ := hq j hj
   rw [zgq, q3]
   exact hc _ q1 _ q2
  ·have hlt := idx_lt hi hj
   simp only [if_pos hi]
   rw [yaa (l := ((xs.drop (off * sz)).take (m * sz))), hget _ hlt]
   have e : off * sz + (i * sz + j) = (off + i) * sz + j := by rw [yas]; omega
   rw [Option.getD_some, e]
   exact hl _ (by omega) j hj
theorem src_osl (h : Rel w0 O0 E0 I0 nt st E I a w) {k el sz g tot off m cap' : Nat} {xget : Nat → List Lf} {base : Option Addr} (hk : st.objs k = some (.arr el sz g tot xget)) (hot : off + m ≤ tot) (hv : LR st.objs E I w (.osl k g off m) (.slice base m cap')) :
  ∃ news, Src I w sz m (fun i => if i < m then xget (off + i) else []) base news := by
 rcases osl_at hk hot hv with ⟨e1, rfl, rfl, rfl⟩ | ⟨o', cap, e1, rfl, e2, e3, e4⟩
 ·have hm : m = 0 := by omega
  subst hm
  exact ⟨[], by simp, by simp, fun _ => rfl, fun _ _ j u hu => by simp at hu, fun i hi => by omega⟩
 ·exact src_arr h hk (by rw [e1]; intro e; cases e) hot e2
theorem bytesAt_is {get : Nat → List Lf} : ∀ (n : Nat) {ns : List Int}, zeg get n = some ns → ns.length = n ∧ ∀ i (h : i < ns.length), get i = [.val (.int .u8 ns[i])]
 | 0, ns, h => by
  simp only [zeg, sj] at h
  subst h
  exact ⟨rfl, fun i hi => by simp at hi⟩
 | n + 1, ns, h => by
  simp only [zeg] at h
  split at h
  ·rename_i l b hl hb
   simp only [sj] at h
   subst h
   obtain ⟨h1, h2⟩ := bytesAt_is n hl
   refine ⟨by simp [h1], fun i hi => ?_⟩
   by_cases hin : i < l.length
   ·rw [List.getElem_append_left hin]; exact h2 i hin
   ·have : i = n := by simp [h1] at hi; omega
    subst this
    rw [List.getElem_append_right (by omega)]
    simpa [h1] using hb
  ·cases h
theorem src_bytes {m : Nat} {get : Nat → List Lf} {base : Option Addr} {news : List Value} (hs : Src I w 1 m get base news) {ns : List Int} (hb : zeg get m = some ns) : news = ns.map (Value.int .u8) := by
 obtain ⟨h1, h2⟩ := bytesAt_is m hb
 have hl : news.length = m := by rw [hs.len, Nat.mul_one]
 apply List.ext_getElem (by rw [hl, ybi, h1])
 intro i hi hi'
 have hg := (hs.get i (by omega)).2 0 (by omega)
 rw [h2 i (by omega)] at hg
 simp only [Nat.mul_one, ybv, yaa, yab hi, Option.getD_some] at hg
 rw [List.getElem_map]
 generalize news[i] = u at hg
 cases hg with
 | val _ _ => rfl
theorem b2s_run {o : Oper} {s d e : TypeId} {x : Operand} (ho : o.op = .convert s d x) (hs : P.underlying s = some (.slice e)) (hdd : P.underlying d = some .string) (he8 : P.underlying e = some (.int .u8))
  {m cap : Nat} {get : Nat → List Lf} {base : Option Addr} {news : List Value} (hsrc : Src I w 1 m get base news) {ns : List Int} (hb : zeg get m = some ns) (hax : a.eval x = .slice base m cap) : (execOp a.eval o).run P w = .ok (.value (.string (mkStr ns))) w := by
 have hn := src_bytes hsrc hb
 have hl : news.length = m := by rw [hsrc.len, Nat.mul_one]
 unfold execOp
 simp only [ho, hax, Sem.run_bind, run_convert_bytes_string w s d e base m cap hs he8 hdd]
 cases base with
 | none =>
  have hm := hsrc.nobase rfl
  subst hm
  have : ns = [] := by cases ns with | nil => rfl | cons => rw [hn] at hl; simp at hl
  subst this
  simp only [Conv.bytesToString, Sem.run_pure, Result.andThen_ok]
  rfl
 | some ad =>
  have hlc := run_loadCells_list (P := P) w ad news (hsrc.cell ad rfl)
  rw [hl, hn] at hlc
  rw [run_bytesToString w ad m cap ns hlc]
  simp only [Result.andThen_ok]
  rfl
theorem b2s_ok (h : Rel w0 O0 E0 I0 nt st E I a w) {o : Oper} (hd : ∀ x, o.dst = some x → x < nt) {s d e : TypeId} {x : Operand} {v : PV} {objs' : Nat → Option Ob}
  (ho : o.op = .convert s d x) (hs : P.underlying s = some (.slice e)) (hdd : P.underlying d = some .string) (he8 : P.underlying e = some (.int .u8))
  (he : eff P C st o.dst (.b2s x) = some (v, objs')) : OpOK P o a w (Left w0 O0 E0 I0 nt st o a objs' v) := by
 simp only [eff] at he
 have hev := h.ev x
 generalize hax : a.eval x = ax at hev
 split at he
 ·rename_i sz m get hx
  rw [hx] at hev
  split at he
  ·rename_i hs1
   subst hs1
   simp only [mj, pj] at he
   obtain ⟨ns, hb, rfl, rfl⟩ := he
   cases hev with
   | one _ _ hev =>
    cases hev with
    | imm _ _ hv =>
     have hv' := hv
     cases hv with
     | view _ _ _ base cap vv hcap hlen hbb hel =>
      obtain ⟨news, hsrc⟩ := src_view (by omega) hv'
      exact zam h hd (b2s_run ho hs hdd he8 hsrc hb hax) (Wst.refl _ _) (.one _ _ (.imm _ _ (.val _ rfl)))
  ·cases he
 ·rename_i k g off m hx
  rw [hx] at hev
  split at he
  ·rename_i el sz g' tot get hk
   split at he
   ·rename_i hcond
    obtain ⟨rfl, rfl, hot⟩ := hcond
    simp only [mj, pj] at he
    obtain ⟨ns, hb, rfl, rfl⟩ := he
    cases hev with
    | one _ _ hev =>
     cases hev with
     | imm _ _ hv => cases hv
     | osl _ _ _ _ el2 sz2 g2 m2 get2 base2 cap' hk2 hg2 hv2 =>
      rw [hk] at hk2
      injection hk2 with hk2
      injection hk2 with q1 q2 q3 q4 q5
      subst q1 q2 q3 q4 q5
      obtain ⟨news, hsrc⟩ := src_osl h hk hot (.osl _ _ _ _ _ _ _ _ _ base2 cap' hk hg2 hv2)
      exact zam h hd (b2s_run ho hs hdd he8 hsrc hb hax) (Wst.refl _ _) (.one _ _ (.imm _ _ (.val _ rfl)))
   ·cases he
  ·cases he
 ·rename_i hx
  rw [hx] at hev
  have hax' : ax = .slice none 0 0 := by
   cases hev with
   | one _ _ hev => exact LR.ofVal hev
  subst hax'
  simp only [sj, pj] at he
  obtain ⟨rfl, rfl⟩ := he
  refine zam h hd (val := .string ByteArray.empty) ?_ (Wst.refl _ _) (.one _ _ (.imm _ _ (.val _ rfl)))
  unfold execOp
  simp only [ho, hax, Sem.run_bind, run_convert_bytes_string w s d e none 0 0 hs he8 hdd, Conv.bytesToString, Sem.run_pure, Result.andThen_ok]
 ·cases he
theorem s2b_ok (h : Rel w0 O0 E0 I0 nt st E I a w) {o : Oper} (hd : ∀ x, o.dst = some x → x < nt) {s d e : TypeId} {x : Operand} {v : PV} {objs' : Nat → Option Ob}
  (ho : o.op = .convert s d x) (hs : P.underlying s = some .string) (hdd : P.underlying d = some (.slice e)) (he8 : P.underlying e = some (.int .u8))
  (he : eff P C st o.dst (.s2b e x) = some (v, objs')) : OpOK P o a w (Left w0 O0 E0 I0 nt st o a objs' v) := by
 simp only [eff] at he
 have hev := h.ev x
 generalize hax : a.eval x = ax at hev
 split at he
 ·rename_i str hx
  rw [hx] at hev
  simp only [sj, pj] at he
  obtain ⟨rfl, rfl⟩ := he
  have hax' : ax = .string str := by
   cases hev with
   | one _ _ hev => exact LR.ofVal hev
  subst hax'
  have hw : Wst (fun _ => False) w (Lib.bytesWorld w e str) := ⟨rfl, rfl, rfl, by rw [Lib.bytesWorld_size]; omega, fun b hb _ => Lib.bytesWorld_at_old w e str b hb⟩
  have hsz : (zdg str).length = str.size := by simp [zdg]
  have hget : ∀ i, i < str.size → ((zdg str).map fun b => [Lf.val (.int .u8 b)]).getD i [] = [Lf.val (.int .u8 (str.data.toList.getD i 0).toNat)] := by
   intro i hi
   have hi' : i < str.data.toList.length := by simpa [zdg] using hsz ▸ hi
   simp [zdg, List.getD, yay, yab hi']
  refine view_new h hd hw (by rw [Lib.bytesWorld_size]; omega) (vv := fun i _ => .int .u8 (str.data.toList.getD i 0).toNat) (cap := grownCap w str.size 0 e) ?_ (fun i hi => by rw [hget i hi]; rfl) (fun i hi j hj => ?_) (fun i hi j hj => ?_) ?_
  ·exact grownCap_ge w str.size 0 e
  ·have : i * 1 + j = i := by omega
   rw [this]; exact Lib.bytesWorld_cell w e str i hi
  ·have : j = 0 := by omega
   subst this
   rw [hget i hi]
   exact .val _ rfl
  ·unfold execOp
   simp only [ho, hax, Sem.run_bind, Lib.run_convert_string_bytes w s d e str hs hdd he8, Result.andThen_ok]
   rfl
 ·cases he
theorem zbu (t ty e : TypeId) (i : TypeInfo) (ht : P.underlying t = some (.slice e)) (hi : P.info? e = some i) (base : Option Addr) (n cap c : Nat) (hn : n ≤ cap) :
  (Builtin.append_ #[t, t] ty #[.slice base n cap, .slice none 0 c]).run P w = .ok (.slice base n cap) w := by
 cases base <;> simp [Builtin.append_, run_underlying ht, sizeOf, typeInfo, hi, Builtin.lenOf, Builtin.firstCells, hn, storeCells]
theorem app_run {o : Oper} {c : Call} {t : TypeId} {s x : Operand} (ho : o.op = .call c) (hc : c.callee = .builtin .append) (ha : c.args.toList = [s, x]) (ht : c.argTypes.toList = [t, t])
  {val : Value} {w' : World} (hr : (Builtin.append_ #[t, t] o.type #[a.eval s, a.eval x]).run P w = .ok val w') : (execOp a.eval o).run P w = .ok (.value val) w' := by
 have hargs : c.args = #[s, x] := by rw [← ha]
 have htys : c.argTypes = #[t, t] := by rw [← ht]
 unfold execOp
 simp only [ho, resolve, hc, hargs, htys, List.map_toArray, yan, yca, Sem.run_bind, Sem.run_pure, Result.andThen_ok, invoke, builtin, hr]
theorem osl_now {objs : Nat → Option Ob} {E : Env} {k g n el sz : Nat} {get : Nat → List Lf} {b cap : Nat} (hk : objs k = some (.arr el sz g n get)) (hv : E.hv k = .slice (some ⟨E.bl k, 0, none⟩) n cap) (hb : E.bl k = b) (hn : n ≤ cap) :
  LR objs E I w (.osl k g 0 n) (.slice (some ⟨b, 0, none⟩) n cap) := by
 subst hb
 refine .osl k g 0 n el sz g n get _ cap hk (yai _) (fun _ _ => ?_)
 exact .inr ⟨0, cap, hv, rfl, .inr (by simp), hn, fun _ => ⟨rfl, rfl⟩⟩
theorem appP_ok (h : Rel w0 O0 E0 I0 nt st E I a w) {o : Oper} (hd : ∀ x, o.dst = some x → x < nt) {c : Call} {t e : TypeId} {s x : Operand} {i : TypeInfo} {z : Value} {v : PV} {objs' : Nat → Option Ob}
  (ho : o.op = .call c) (hc : c.callee = .builtin .append) (ha : c.args.toList = [s, x]) (ht : c.argTypes.toList = [t, t]) (hu : P.underlying t = some (.slice e)) (hi : P.info? e = some i) (hz : i.zero = some z)
  (hzs : z.cells.size = i.size) (hsz : 0 < i.size) (hfix : e < fixM) {m cx : Nat} {xget : Nat → List Lf} {base : Option Addr} {news : List Value} (hsrc : Src I w i.size m xget base news) (hax : a.eval x = .slice base m cx)
  {d : Nat} (he : appP st.objs d e i.size i.bytes (st.ev s) m xget = some (v, objs')) : OpOK P o a w (Left w0 O0 E0 I0 nt st o a objs' v) := by
 have hes := h.ev s
 generalize has : a.eval s = as at hes
 unfold appP at he
 split at he
 ·rename_i hs
  rw [hs] at hes
  have has' : as = .slice none 0 0 := by
   cases hes with
   | one _ _ hes => exact LR.ofVal hes
  subst has'
  split at he
  ·rename_i hlim
   split at he
   ·rename_i hnone
    simp only [sj, pj] at he
    obtain ⟨rfl, rfl⟩ := he
    by_cases hm : m = 0
    ·subst hm
     have hrun : ∃ w', (Builtin.append_ #[t, t] o.type #[.slice none 0 0, .slice base 0 cx]).run P w = .ok (.slice none 0 0) w' ∧ Wst (fun _ => False) w w' := by
      cases hbase : base with
      | none => exact ⟨w, zbu t o.type e i hu hi none 0 0 cx (yai _), Wst.refl _ _⟩
      | some ad =>
       obtain ⟨v', w', hr, _, hgr, hnil⟩ := run_append_own (P := P) w 0 t o.type e i z i.size i.bytes hu hi hz rfl rfl hzs hsz _ 0 [] (World.ownsRow_nil w 0 e i.size) ad 0 cx news hsrc.len (hsrc.cell ad hbase) hsrc.one
        (by simp only [maxLen]; omega) (by omega) (ybs _)
       rw [hnil.2 ⟨rfl, rfl⟩] at hr
       exact ⟨w', hr, (Wst.grown hgr).mono (fun b hb => by simp [Value.ownBlock] at hb)⟩
     obtain ⟨w', hr, hw⟩ := hrun
     refine OpOK.value (app_run ho hc ha ht (by rw [has, hax]; exact hr)) ⟨⟨upd E.bl d 0, upd E.hv d (.slice none 0 0)⟩, I, ?_⟩
     refine h.fresh hw d hlim.2.2 hnone (.arr e i.size 0 0 xget) 0 (.slice none 0 0) (fun hx => absurd rfl (hx _ _ _ _ _ rfl)) o.dst hd _ _ (fun _ => ?_) (fun _ => ?_)
     ·refine ⟨[], ?_, .inl (zab _ _ _), hsz, fun q hq => by omega⟩
      show rowW w' e i.size (upd E.hv d _ d) 0 []
      rw [zab]; exact zfc (World.ownsRow_nil w' 0 e i.size)
     ·exact .one _ _ (.osl _ 0 0 0 e i.size 0 0 _ none 0 (zab _ _ _) (yai _) (fun _ _ => .inl ⟨zab _ _ _, rfl, rfl, rfl⟩))
    ·cases hbase : base with
     | none => exact absurd (hsrc.nobase hbase) hm
     | some ad =>
      have hmx : zae ≤ maxLen := by simp only [zae, maxLen]; omega
      have hmy : zae ≤ 140737488355328 := by simp only [zae]; omega
      obtain ⟨v', w', hr, hown, hgr, hnil⟩ := run_append_own (P := P) w w.heap.size t o.type e i z i.size i.bytes hu hi hz rfl rfl hzs hsz _ 0 [] (World.ownsRow_nil w w.heap.size e i.size) ad m cx news hsrc.len (hsrc.cell ad hbase) hsrc.one
       (by omega) (by rw [ybk]; omega) (yai _)
      have hw : Wst (fun _ => False) w w' := (Wst.grown hgr).mono (fun b hb => by simp [Value.ownBlock] at hb)
      simp only [ybk, ybw] at hown
      obtain ⟨hol, hor⟩ := hown
      rcases hor with ⟨_, h0⟩ | ⟨g, cap, cur, rfl, hbg, hgg, hcap, hcm, hcs, htk⟩
      ·exact absurd h0 hm
      ·have hglt : g < w'.heap.size := (ybx.1 hgg).1
       refine OpOK.value (app_run ho hc ha ht (by rw [has, hax, hbase]; exact hr)) ⟨⟨upd E.bl d g, upd E.hv d (.slice (some ⟨g, 0, none⟩) m cap)⟩, I, ?_⟩
       refine h.fresh hw d hlim.2.2 hnone (.arr e i.size 0 m xget) g (.slice (some ⟨g, 0, none⟩) m cap) (fun _ => ⟨hbg, hglt⟩) o.dst hd _ _ (fun _ => ?_) (fun _ => ?_)
       ·refine ⟨news, ?_, .inr ⟨cap, ?_⟩, hsz, fun q hq => ⟨(hsrc.get q hq).1, fun j hj => ?_⟩⟩
        rotate_left
        ·show upd E.hv d _ d = .slice (some ⟨upd E.bl d g d, 0, none⟩) m cap
         rw [zab, zab]
        rotate_left
        ·show rowW w' e i.size (upd E.hv d _ d) m news
         rw [zab]
         refine zfc ?_
         exact ⟨hol, .inr ⟨g, cap, cur, rfl, ybs _, hgg, hcap, hcm, hcs, htk⟩⟩
        ·exact ((hsrc.get q hq).2 j hj).mono (fun _ h => h) (fun b hb => hw.block b (h.Ilt b hb) id)
       ·refine .one _ _ (osl_now (zab _ _ _) ?_ ?_ hcap)
        ·show upd E.hv d _ d = .slice (some ⟨upd E.bl d g d, 0, none⟩) m cap
         rw [zab, zab]
        ·show upd E.bl d g d = g
         rw [zab]
   ·cases he
  ·cases he
 ·rename_i k g n hs
  rw [hs] at hes
  split at he
  ·rename_i el' esz' g' n' get hk
   split at he
   ·rename_i hcond
    obtain ⟨rfl, rfl, rfl, rfl, hlimb, hlim⟩ := hcond
    simp only [sj, pj] at he
    obtain ⟨rfl, rfl⟩ := he
    obtain ⟨xs, hownx', hhv, hs0, hel⟩ := h.objs k _ hk
    have hownx := hownx'.own hfix
    have hes' : LR st.objs E I w (.osl k g 0 n) as := by
     cases hes with
     | one _ _ hes => exact hes
    have key : as = E.hv k := by
     cases hes' with
     | imm _ _ hv => cases hv
     | osl _ _ _ _ el2 sz2 g2 m2 get2 base2 cap' hk2 hg2 hv2 =>
      rw [hk] at hk2
      injection hk2 with hk2
      injection hk2 with q1 q2 q3 q4 q5
      subst q1 q2 q3 q4 q5
      rcases hv2 rfl (by omega) with ⟨r1, rfl, rfl, rfl⟩ | ⟨o', cap2, r1, rfl, r2, r3, r4⟩
      ·exact r1.symm
      ·obtain ⟨rfl, rfl⟩ := r4 rfl
       exact r1.symm
    subst key
    have hrun : ∃ v' w' b', (Builtin.append_ #[t, t] o.type #[E.hv k, .slice base m cx]).run P w = .ok v' w' ∧ w'.ownsRow 0 e i.size v' (n + m) (xs ++ news) ∧
      (v' = .slice none 0 0 ∨ ∃ cap2, v' = .slice (some ⟨b', 0, none⟩) (n + m) cap2) ∧ (v' ≠ .slice none 0 0 → (Blk st.objs E k ∧ b' = E.bl k) ∨ (w.heap.size ≤ b' ∧ b' < w'.heap.size)) ∧ Wst (fun b => Blk st.objs E k ∧ b = E.bl k) w w' := by
     by_cases hnn : E.hv k = .slice none 0 0
     ·have hn0 : n = 0 := by
       rcases hownx.2 with ⟨_, h0⟩ | ⟨g3, cap3, cur3, e3, _⟩
       ·exact h0
       ·rw [hnn] at e3; cases e3
      have hxs : xs = [] := yau (by rw [hownx.1, hn0, Nat.zero_mul])
      subst hn0
      subst hxs
      rw [hnn]
      cases hbase : base with
      | none =>
       have hm0 := hsrc.nobase hbase
       subst hm0
       have hnw : news = [] := yau (by rw [hsrc.len]; simp)
       subst hnw
       exact ⟨_, w, 0, zbu t o.type e i hu hi none 0 0 cx (yai _), World.ownsRow_nil w 0 e i.size, .inl rfl, fun hne => absurd rfl hne, Wst.refl _ _⟩
      | some ad =>
       have hmx : zae ≤ maxLen := by simp only [zae, maxLen]; omega
       have hmy : zae ≤ 140737488355328 := by simp only [zae]; omega
       obtain ⟨v', w', hr, hown, hgr, hnil⟩ := run_append_own (P := P) w w.heap.size t o.type e i z i.size i.bytes hu hi hz rfl rfl hzs hsz _ 0 [] (World.ownsRow_nil w w.heap.size e i.size) ad m cx news hsrc.len (hsrc.cell ad hbase) hsrc.one
        (by omega) (by omega) (yai _)
       have hw : Wst (fun _ => False) w w' := (Wst.grown hgr).mono (fun b hb => by simp [Value.ownBlock] at hb)
       have hown' := hown
       obtain ⟨hol, hor⟩ := hown
       rcases hor with ⟨e1, h0⟩ | ⟨g3, cap3, cur3, e1, hbg, hgg, hcap3, hcm3, hcs3, htk3⟩
       ·exact ⟨v', w', 0, hr, ⟨hol, .inl ⟨e1, h0⟩⟩, .inl e1, fun hne => absurd e1 hne, hw.mono (fun _ h => h.elim)⟩
       ·exact ⟨v', w', g3, hr, ⟨hol, .inr ⟨g3, cap3, cur3, e1, ybs _, hgg, hcap3, hcm3, hcs3, htk3⟩⟩, .inr ⟨cap3, e1⟩, fun _ => .inr ⟨hbg, (ybx.1 hgg).1⟩, hw.mono (fun _ h => h.elim)⟩
     ·have hblk : Blk st.objs E k := Blk.arr hk hnn
      obtain ⟨xs2, cap, cur, tr, fz, e1, hb, hcap, _, ⟨_, hty⟩, htk, hxl, _, _, _, _⟩ := h.arr_at hk hnn
      obtain ⟨q1, q2, hcm, hcs⟩ := hty hfix
      rw [q1, q2] at hb
      have hxx : xs2 = xs := by
       rcases hownx.2 with ⟨e3, _⟩ | ⟨g3, cap3, cur3, e3, _, hb3, _, _, _, htk3⟩
       ·exact absurd e3 hnn
       ·rw [e1] at e3
        injection e3 with e4 _ _
        injection e4 with e4
        injection e4 with e4 _ _
        rw [e4] at hb
        rw [hb] at hb3
        injection hb3 with hb3
        injection hb3 with hb3 _ _
        subst hb3
        rw [← htk, ← htk3]
      subst hxx
      rw [e1]
      cases hbase : base with
      | none =>
       have hm0 := hsrc.nobase hbase
       subst hm0
       have hnw : news = [] := yau (by rw [hsrc.len]; simp)
       subst hnw
       refine ⟨_, w, E.bl k, zbu t o.type e i hu hi _ n cap cx hcap, ?_, .inr ⟨cap, rfl⟩, fun _ => .inl ⟨hblk, rfl⟩, Wst.refl _ _⟩
       rw [yci]
       exact ⟨hxl, .inr ⟨E.bl k, cap, cur, rfl, ybs _, hb, hcap, hcm, hcs, htk⟩⟩
      | some ad =>
       obtain ⟨w', b', cap2, hr, hb', hown, hw⟩ := append_law (P := P) (w := w) t o.type e i z hu hi hz hzs hsz (E.bl k) n cap cur xs2 hb hcap hcm hcs htk hxl ad m cx news hsrc.len (hsrc.cell ad hbase) hsrc.one hlim hlimb
       refine ⟨_, w', b', hr, hown, .inr ⟨cap2, rfl⟩, fun _ => ?_, hw.mono (fun b hb => ⟨hblk, hb⟩)⟩
       rcases hb' with hb' | hb'
       ·exact .inl ⟨hblk, hb'⟩
       ·exact .inr hb'
    obtain ⟨v', w', b', hr, hown, hvv, hb', hw⟩ := hrun
    have hlr : ∀ (objs2 : Nat → Option Ob) (E2 : Env) (get2 : Nat → List Lf), objs2 k = some (.arr e i.size (g + 1) (n + m) get2) → E2.hv k = v' → E2.bl k = b' → LR objs2 E2 I w' (.osl k (g + 1) 0 (n + m)) v' := by
     intro objs2 E2 get2 ho2 hh2 hb2
     rcases hvv with hvv | ⟨cap2, hvv⟩
     ·have hnm : n + m = 0 := by
       rcases hown.2 with ⟨_, h0⟩ | ⟨g3, cap3, cur3, e3, _⟩
       ·exact h0
       ·rw [hvv] at e3; cases e3
      rw [hvv]
      rw [hnm] at ho2 ⊢
      exact .osl k (g + 1) 0 0 _ _ _ _ _ none 0 ho2 (yai _) (fun _ _ => .inl ⟨hh2.trans hvv, rfl, rfl, rfl⟩)
     ·rw [hvv]
      refine osl_now ho2 (by rw [hh2, hb2]; exact hvv) hb2 ?_
      rcases hown.2 with ⟨e3, _⟩ | ⟨g3, cap3, cur3, e3, _, _, hcap3, _⟩
      ·rw [hvv] at e3; cases e3
      ·rw [hvv] at e3; injection e3 with _ _ e3; omega
    refine OpOK.value (app_run ho hc ha ht (by rw [has, hax]; exact hr)) ⟨_, _, h.change k (.arr e i.size g n get) (.arr e i.size (g + 1) (n + m) (if m = 1 then (fun i => if i = n then xget 0 else get i) else (fun i => if i < n then get i else xget (i - n)))) hk hw b' v'
     (fun hx => hb' (hx _ _ _ _ _ rfl)) o.dst hd _ _ ⟨g + 1, n + m, _, rfl, Nat.le_succ _, fun e => by omega⟩ (fun mv => ?_) (fun mv => ?_)⟩
    ·refine ⟨xs ++ news, ?_, ?_, hs0, fun q hq => ?_⟩
     ·show rowW w' e i.size (upd E.hv k _ k) (n + m) _
      rw [zab]; exact zfc hown
     ·show upd E.hv k v' k = _ ∨ ∃ cap, upd E.hv k v' k = .slice (some ⟨upd E.bl k b' k, 0, none⟩) (n + m) cap
      rw [zab, zab]; exact hvv
     ·have hsame : (if m = 1 then (fun i => if i = n then xget 0 else get i) else (fun i => if i < n then get i else xget (i - n))) q = if q < n then get q else xget (q - n) := by
       split
       ·show (if q = n then xget 0 else get q) = _
        by_cases hqn : q = n
        ·rw [if_pos hqn, if_neg (by omega)]; congr 1; omega
        ·rw [if_neg hqn, if_pos (by omega)]
       ·rfl
      rw [hsame]
      by_cases hqn : q < n
      ·rw [if_pos hqn]
       refine ⟨(hel q hqn).1, fun j hj => ?_⟩
       have e : (xs ++ news).getD (q * i.size + j) undef = xs.getD (q * i.size + j) undef := by
        have := idx_lt hqn hj
        rw [yaa, yar (by rw [hownx.1]; omega), yaa]
       rw [e]; exact mv.lri ((hel q hqn).2 j hj)
      ·rw [if_neg hqn]
       obtain ⟨s1, s2⟩ := hsrc.get (q - n) (by omega)
       refine ⟨s1, fun j hj => ?_⟩
       have e : (xs ++ news).getD (q * i.size + j) undef = news.getD ((q - n) * i.size + j) undef := by
        have h1 : q * i.size = n * i.size + (q - n) * i.size := by rw [← yas]; congr 1; omega
        rw [yaa, yax (by rw [hownx.1]; omega), yaa, hownx.1]
        congr 2; omega
       rw [e]; exact mv.lri (s2 j hj)
    ·exact .one _ _ (hlr _ _ _ (zab _ _ _) (zab _ _ _) (zab _ _ _))
   ·cases he
  ·cases he
 ·cases he
theorem app_ok (h : Rel w0 O0 E0 I0 nt st E I a w) {o : Oper} (hd : ∀ x, o.dst = some x → x < nt) {c : Call} {t e : TypeId} {s x : Operand} {i : TypeInfo} {z : Value} {v : PV} {objs' : Nat → Option Ob}
  (ho : o.op = .call c) (hc : c.callee = .builtin .append) (ha : c.args.toList = [s, x]) (ht : c.argTypes.toList = [t, t]) (hu : P.underlying t = some (.slice e)) (hi : P.info? e = some i) (hz : i.zero = some z)
  (hzs : z.cells.size = i.size) (hsz : 0 < i.size) (hfix : e < fixM)
  {key : Nat} (he : eff P C st o.dst (.app key e i.size i.bytes s x) = some (v, objs')) : OpOK P o a w (Left w0 O0 E0 I0 nt st o a objs' v) := by
 simp only [eff] at he
 have hev := h.ev x
 generalize hax : a.eval x = ax at hev
 split at he
 ·rename_i sz m xget hx
  rw [hx] at hev
  split at he
  ·rename_i hs
   subst hs
   cases hev with
   | one _ _ hev =>
    cases hev with
    | imm _ _ hv =>
     have hv' := hv
     cases hv with
     | view _ _ _ base cap vv hcap hlen hb hel =>
      obtain ⟨news, hsrc⟩ := src_view hsz hv'
      exact appP_ok h hd ho hc ha ht hu hi hz hzs hsz hfix hsrc hax he
  ·cases he
 ·rename_i k g off m hx
  rw [hx] at hev
  split at he
  ·rename_i el sz g' tot xget hk
   split at he
   ·rename_i hcond
    obtain ⟨rfl, rfl, hot⟩ := hcond
    cases hev with
    | one _ _ hev =>
     cases hev with
     | imm _ _ hv => cases hv
     | osl _ _ _ _ el2 sz2 g2 m2 get2 base2 cap' hk2 hg2 hv2 =>
      rw [hk] at hk2
      injection hk2 with hk2
      injection hk2 with q1 q2 q3 q4 q5
      subst q1 q2 q3 q4 q5
      obtain ⟨news, hsrc⟩ := src_osl h hk hot (.osl _ _ _ _ _ _ _ _ _ base2 cap' hk hg2 hv2)
      exact appP_ok h hd ho hc ha ht hu hi hz hzs hsz hfix hsrc hax he
   ·cases he
  ·cases he
 ·rename_i hx
  rw [hx] at hev
  have hax' : ax = .slice none 0 0 := by
   cases hev with
   | one _ _ hev => exact LR.ofVal hev
  subst hax'
  have hes := h.ev s
  generalize has : a.eval s = as at hes
  split at he
  ·rename_i hs
   rw [hs] at hes
   simp only [sj, pj] at he
   obtain ⟨rfl, rfl⟩ := he
   cases hes with
   | one _ _ hes =>
    have := LR.ofVal hes
    subst this
    exact zam h hd (app_run ho hc ha ht (by rw [has, hax]; exact zbu t o.type e i hu hi none 0 0 0 (yai _))) (Wst.refl _ _) (.one _ _ (.imm _ _ (.val _ rfl)))
  ·rename_i k g off n hs
   rw [hs] at hes
   split at he
   ·rename_i el sz g' tot xget hk
    split at he
    ·rename_i hcond
     obtain ⟨rfl, hot⟩ := hcond
     simp only [sj, pj] at he
     obtain ⟨rfl, rfl⟩ := he
     cases hes with
     | one _ _ hes =>
      have hes' := hes
      cases hes with
      | imm _ _ hv => cases hv
      | osl _ _ _ _ el2 sz2 g2 m2 get2 base2 cap' hk2 hg2 hv2 =>
       rw [hk] at hk2
       injection hk2 with hk2
       injection hk2 with q1 q2 q3 q4 q5
       subst q1 q2 q3 q4 q5
       rcases hv2 rfl hot with ⟨r1, rfl, rfl, rfl⟩ | ⟨o', cap2, r1, rfl, r2, r3, r4⟩
       ·have hn0 : n = 0 := by omega
        subst hn0
        exact zam h hd (app_run ho hc ha ht (by rw [has, hax]; exact zbu t o.type e i hu hi none 0 0 0 (yai _))) (Wst.refl _ _) (.one _ _ hes')
       exact zam h hd (app_run ho hc ha ht (by rw [has, hax]; exact zbu t o.type e i hu hi _ n cap' 0 r3)) (Wst.refl _ _) (.one _ _ hes')
    ·cases he
   ·cases he
  ·cases he
 ·cases he
theorem bown_ok (h : Rel w0 O0 E0 I0 nt st E I a w) {o : Oper} (hd : ∀ x, o.dst = some x → x < nt) {t e : TypeId} {len : Nat} {parts : Array (Nat × Operand)} {ie : TypeInfo} {z : Value} {v : PV} {objs' : Nat → Option Ob}
  (ho : o.op = .buildSlice t len parts) (hu : P.underlying t = some (.slice e)) (hie : P.info? e = some ie) (hz : ie.zero = some z) (hsmall : ¬ len * ie.size > 2 ^ 24) (hpos : ¬ len * ie.size = 0)
  (hps : parts.toList.map (·.1) = List.range len)
  (he : eff P C st o.dst (.bown e ie.size (parts.toList.map (·.2))) = some (v, objs')) : OpOK P o a w (Left w0 O0 E0 I0 nt st o a objs' v) := by
 simp only [eff] at he
 split at he
 ·rename_i d hdst
  split at he
  ·rename_i l hk hl
   split at he
   ·rename_i hcl
    simp only [yag, Nat.ble_eq] at hcl
    obtain ⟨hcl, hdp⟩ := hcl
    simp only [sj, pj] at he
    obtain ⟨rfl, rfl⟩ := he
    obtain ⟨l1, l2, l3⟩ := zgo h ie.size _ l hl
    have hlen : parts.toList.length = len := by
     have := congrArg List.length hps
     simpa using this
    have hll : l.length = len := by rw [l1, ybi, hlen]
    have hps' : parts.toList = ((parts.toList.map (·.2)).zipIdx 0).map fun p => (p.2, p.1) := zfu _ 0 (by rw [hps, hlen, List.range_eq_range'])
    have hvals : (parts.map fun (i, x) => (i, a.eval x)).toList = (((parts.toList.map (·.2)).map a.eval).zipIdx 0).map fun p => (p.2, p.1) := by
     rw [← zeo, ← hps', Array.toList_map]
    have hC0 : ((Array.range (len * ie.size)).map (z.cells[· % z.cells.size]!)).size = len * ie.size := by simp
    obtain ⟨C', hC'⟩ := zgk ie.size ((parts.toList.map (·.2)).map a.eval) 0 ((Array.range (len * ie.size)).map (z.cells[· % z.cells.size]!)) (fun v hv => (l2 v hv).1) (by rw [hC0]; simp [hlen])
    have hsz' : (0 + ((parts.toList.map (·.2)).map a.eval).length) * ie.size ≤ ((Array.range (len * ie.size)).map (z.cells[· % z.cells.size]!)).size := by rw [hC0]; simp [hlen]
    obtain ⟨g1, _, g3⟩ := FG_outside ie.size 0 ((parts.toList.map (·.2)).map a.eval) 0 _ C' (fun v hv => (l2 v hv).1) hC' hsz'
    have hrun := run_buildSlice (P := P) w t e len (parts.map fun (i, x) => (i, a.eval x)) C' ie z hu hie hz hsmall hpos (by rw [hvals]; exact hC')
    have hw : Wst (fun _ => False) w (w.alloc (.cells C' e)) := Wst.alloc _ _ _
    have hs0 : 0 < ie.size := by
     rcases Nat.eq_zero_or_pos ie.size with h0 | h0
     ·rw [h0] at hpos; simp at hpos
     ·exact h0
    have hlm : len ≤ maxLen := by
     have h1 : len * 1 ≤ len * ie.size := Nat.mul_le_mul_left _ hs0
     have h2 : (2 : Nat) ^ 24 ≤ maxLen := by simp only [maxLen]; omega
     omega
    have hCs : C'.size = len * ie.size := by rw [g1, hC0]
    refine OpOK.value (w' := w.alloc (.cells C' e)) (val := .slice (some ⟨w.heap.size, 0, none⟩) len len) ?_ ⟨⟨upd E.bl d w.heap.size, upd E.hv d (.slice (some ⟨w.heap.size, 0, none⟩) len len)⟩, I, ?_⟩
    ·unfold execOp
     simp only [ho, Sem.run_bind, hrun, Result.andThen_ok]; rfl
    ·rw [hll]
     refine h.fresh hw d hdp hk (.arr e ie.size 0 len fun i => l.getD i []) w.heap.size (.slice (some ⟨w.heap.size, 0, none⟩) len len) (fun _ => ⟨yai _, by simp⟩) o.dst hd _ _ (fun m => ?_) (fun m => ?_)
     ·refine ⟨C'.toList, ?_, .inr ⟨len, ?_⟩, hs0, fun i hi => ⟨(l3 i (by omega)).1, fun j hj => ?_⟩⟩
      rotate_left
      ·show upd E.hv d _ d = .slice (some ⟨upd E.bl d w.heap.size d, 0, none⟩) len len
       rw [zab, zab]
      rotate_left
      ·show rowW (w.alloc _) e ie.size (upd E.hv d _ d) len C'.toList
       rw [zab]
       refine ⟨by simp [hCs], .inr ⟨w.heap.size, len, C', e, (0, 0), rfl, heap_alloc_new w _, yai _, by rw [hCs]; exact yai _, .inr rfl, ?_, fun _ => ⟨rfl, rfl, hlm, hCs⟩⟩⟩
       rw [← hCs, ← yal, List.take_length]
      ·have e3 := g3 i (by rw [ybi, ybi, hlen]; exact hi) j hj
       rw [ybk] at e3
       have e4 : C'.toList.getD (i * ie.size + j) undef = C'.getD (i * ie.size + j) undef := by simp
       show LRi _ _ _ (C'.toList.getD (i * ie.size + j) undef)
       rw [e4, e3]
       have hlr := (l3 i (by omega)).2 j hj
       refine m.lri (LR.clean hlr ?_)
       have hmem : (l.getD i []) ∈ l := by rw [yaa, yab (by omega)]; simp
       have hmem2 : ((l.getD i []).getD j default) ∈ l.getD i [] := by
        rw [yaa (l := l.getD i []), yab (by rw [(l3 i (by omega)).1]; exact hj)]; simp
       exact yba.1 (yba.1 hcl _ hmem) _ hmem2
     ·refine .one _ _ (osl_now (zab _ _ _) ?_ ?_ (yai _))
      ·show upd E.hv d _ d = .slice (some ⟨upd E.bl d w.heap.size d, 0, none⟩) len len
       rw [zab, zab]
      ·show upd E.bl d w.heap.size d = w.heap.size
       rw [zab]
   ·cases he
  ·cases he
 ·cases he
theorem s2bo_ok (h : Rel w0 O0 E0 I0 nt st E I a w) {o : Oper} (hd : ∀ x, o.dst = some x → x < nt) {s d e : TypeId} {x : Operand} {v : PV} {objs' : Nat → Option Ob}
  (ho : o.op = .convert s d x) (hs : P.underlying s = some .string) (hdd : P.underlying d = some (.slice e)) (he8 : P.underlying e = some (.int .u8))
  (he : eff P C st o.dst (.s2bo e x) = some (v, objs')) : OpOK P o a w (Left w0 O0 E0 I0 nt st o a objs' v) := by
 simp only [eff] at he
 have hev := h.ev x
 generalize hax : a.eval x = ax at hev
 split at he
 ·rename_i dd hdst
  split at he
  ·rename_i str hk hx
   split at he
   ·rename_i hdp
    rw [Nat.ble_eq] at hdp
    rw [hx] at hev
    simp only [sj, pj] at he
    obtain ⟨rfl, rfl⟩ := he
    have hax' : ax = .string str := by
     cases hev with
     | one _ _ hev => exact LR.ofVal hev
    subst hax'
    have hw : Wst (fun _ => False) w (Lib.bytesWorld w e str) := ⟨rfl, rfl, rfl, by rw [Lib.bytesWorld_size]; omega, fun b hb _ => Lib.bytesWorld_at_old w e str b hb⟩
    have hsz : (zdg str).length = str.size := by simp [zdg]
    have hget : ∀ i, i < str.size → ((zdg str).map fun b => [Lf.val (.int .u8 b)]).getD i [] = [Lf.val (.int .u8 (str.data.toList.getD i 0).toNat)] := by
     intro i hi
     have hi' : i < str.data.toList.length := by simpa [zdg] using hsz ▸ hi
     simp [zdg, List.getD, yay, yab hi']
    have hcap := grownCap_ge w str.size 0 e
    obtain ⟨cur, tt, fz, hcur, hbig, hfz⟩ : ∃ cur tt fz, (Lib.bytesWorld w e str).heap[w.heap.size]? = some (.cells cur tt fz) ∧ str.size ≤ cur.size ∧ (str.size ≤ fz.1 ∨ fz.2 = 0) := by
     have hb : str.size ≤ (Lib.bytesCells w e str).size := by simp [Lib.bytesCells]
     exact ⟨_, _, _, Lib.bytesWorld_at_new w e str, hb, .inl hb⟩
    refine OpOK.value (w' := Lib.bytesWorld w e str) (val := .slice (some ⟨w.heap.size, 0, none⟩) str.size (grownCap w str.size 0 e)) ?_ ⟨⟨upd E.bl dd w.heap.size, upd E.hv dd (.slice (some ⟨w.heap.size, 0, none⟩) str.size (grownCap w str.size 0 e))⟩, I, ?_⟩
    ·unfold execOp
     simp only [ho, hax, Sem.run_bind, Lib.run_convert_string_bytes w s d e str hs hdd he8, Result.andThen_ok]
     rfl
    ·refine h.fresh hw dd hdp hk (.arr (fixM + e) 1 0 str.size _) w.heap.size (.slice (some ⟨w.heap.size, 0, none⟩) str.size (grownCap w str.size 0 e)) (fun _ => ⟨yai _, by rw [Lib.bytesWorld_size]; omega⟩) o.dst hd _ _ (fun m => ?_) (fun m => ?_)
     ·refine ⟨cur.toList.take (str.size * 1), ?_, .inr ⟨grownCap w str.size 0 e, ?_⟩, Nat.one_pos, fun i hi => ⟨(congrArg List.length (hget i hi)).trans rfl, fun j hj => ?_⟩⟩
      rotate_left
      ·show upd E.hv dd _ dd = .slice (some ⟨upd E.bl dd w.heap.size dd, 0, none⟩) str.size _
       rw [zab, zab]
      rotate_left
      ·show rowW (Lib.bytesWorld w e str) (fixM + e) 1 (upd E.hv dd _ dd) str.size _
       rw [zab]
       refine ⟨by simp; omega, .inr ⟨w.heap.size, grownCap w str.size 0 e, cur, tt, fz, rfl, hcur, hcap, by omega, by omega, rfl, fun hlt => by omega⟩⟩
      ·have hj0 : j = 0 := by omega
       subst hj0
       show LRi _ _ ((((zdg str).map fun b => [Lf.val (.int .u8 b)]).getD i []).getD 0 default) _
       rw [hget i hi]
       have hc := Lib.bytesWorld_cell w e str i hi
       rw [cell_of_row _ _ _ cur tt fz hcur] at hc
       have e4 : (cur.toList.take (str.size * 1)).getD (i * 1 + 0) undef = .int .u8 (str.data.toList.getD i 0).toNat := by
        rw [Nat.mul_one, Nat.mul_one, ybv, yaa, yap, if_pos hi, yaw, hc]
        rfl
       rw [e4]
       exact .val _ rfl
     ·refine .one _ _ (osl_now (zab _ _ _) ?_ ?_ hcap)
      ·show upd E.hv dd _ dd = .slice (some ⟨upd E.bl dd w.heap.size dd, 0, none⟩) str.size _
       rw [zab, zab]
      ·show upd E.bl dd w.heap.size dd = w.heap.size
       rw [zab]
   ·cases he
  ·cases he
 ·cases he
end
end Go.Rx
