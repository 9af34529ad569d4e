/- No condition. -/
import Derived.Test.YtobeamaaifgllaaRxBb
set_option linter.unusedVariables false
namespace Go.Rx
open Go Go.RowKit
structure Inserted (T SZ : Nat) (w w' : World) (v v' : Value) (n i : Nat) (xs vs : List Value) : Prop where
 own : w'.ownsRow 0 T SZ v' (n + 1) (xs.take (i * SZ) ++ vs ++ xs.drop (i * SZ))
 row : ∃ g' cap', v' = .slice (some ⟨g', 0, none⟩) (n + 1) cap' ∧ (v.ownBlock = some g' ∨ (w.heap.size ≤ g' ∧ g' < w'.heap.size))
 st : Wst (fun k => some k = v.ownBlock) w w'
def InsertWalk (P : Program) (f T SZ : Nat) : Prop := ∀ (v : Value) (n i vb vc tv : Nat) (vcs : Array Value) (xs : List Value) (w : World), w.ownsRow 0 T SZ v n xs → (∀ u ∈ xs, u.oneCell' = true) →
 w.heap[vb]? = some (.cells vcs tv (0, 0)) → v.ownBlock ≠ some vb → vcs.size = SZ → (∀ u ∈ vcs.toList, u.oneCell' = true) → i ≤ n → n ≤ 1000000 →
 Calls P f #[v, .int .i64 i, .slice (some ⟨vb, 0, none⟩) 1 vc] w fun e w' => ∃ v', e = .returned v' ∧ Inserted T SZ w w' v v' n i xs vcs.toList
structure Deleted (T SZ : Nat) (w w' : World) (v v' : Value) (n i j : Nat) (xs : List Value) : Prop where
 own : w'.ownsRow 0 T SZ v' (n - (j - i)) (xs.take (i * SZ) ++ xs.drop (j * SZ))
 row : ∃ g cap, v = .slice (some ⟨g, 0, none⟩) n cap ∧ v' = .slice (some ⟨g, 0, none⟩) (n - (j - i)) cap
 st : Wst (fun k => some k = v.ownBlock) w w'
def DeleteWalk (P : Program) (f T SZ : Nat) : Prop := ∀ (v : Value) (n i j : Nat) (xs : List Value) (w : World), w.ownsRow 0 T SZ v n xs → (∀ u ∈ xs, u.oneCell' = true) → i < j → j ≤ n → n ≤ 1000000 →
 Calls P f #[v, .int .i64 i, .int .i64 j] w fun e w' => ∃ v', e = .returned v' ∧ Deleted T SZ w w' v v' n i j xs
structure Cloned (T SZ : Nat) (w w' : World) (v' : Value) (n : Nat) (xs : List Value) : Prop where
 own : w'.ownsRow 0 T SZ v' n xs
 row : v' = .slice none 0 0 ∨ ∃ g cap, v' = .slice (some ⟨g, 0, none⟩) n cap ∧ w.heap.size ≤ g ∧ g < w'.heap.size
 st : Wst (fun _ => False) w w'
def CloneWalk (P : Program) (f T SZ : Nat) : Prop := ∀ (base : Option Addr) (n cap : Nat) (xs : List Value) (w : World), xs.length = n * SZ → (base = none → n = 0) → (∀ ad, base = some ad → ∀ j u, xs[j]? = some u → w.cell? (ad.add j) = some u) → (∀ u ∈ xs, u.oneCell' = true) → n ≤ 1000000 →
 Calls P f #[.slice base n cap] w fun e w' => ∃ v', e = .returned v' ∧ Cloned T SZ w w' v' n xs
def natOf : Lf → Option Nat
 | .val (.int .i64 i) => if 0 ≤ i then some i.toNat else Option.none
 | _ => Option.none
def cloneO (T SZ f : Nat) : Oracle := fun f' args os =>
 match args, os with
 | [.one (.view sz n get)], [] =>
  if (Nat.beq f' f && Nat.beq sz SZ && Nat.ble n 1000000) then some (.one (.osl pbase 0 0 n), [.arr T SZ 0 n (fun i => if i < n then get i else [])]) else Option.none
 | _, _ => Option.none
def insG (n i : Nat) (get : Nat → List Lf) (cs : List Lf) : Nat → List Lf := fun j => if j < i then get j else if j = i then cs else get (j - 1)
def insO (T SZ f : Nat) : Oracle := fun f' args os =>
 match args, os with
 | [.one (.osl k g 0 n), .one li, .one (.csl kv sz 0 1)], [.arr T' sz' g' n' get, .cells cs] =>
  match natOf li with
  | some i => if (Nat.beq f' f && Nat.beq k pbase && Nat.beq g 0 && Nat.beq kv (pbase + 1) && Nat.beq sz SZ && Nat.beq T' T && Nat.beq sz' SZ && Nat.beq g' 0 && Nat.beq n n' && Nat.beq cs.length SZ && cs.all (Lf.clean true) && Nat.ble i n && Nat.ble n 1000000) then
    some (.one (.osl pbase 1 0 (n + 1)), [.arr T SZ 1 (n + 1) (insG n i get cs), .cells cs]) else Option.none
  | Option.none => Option.none
 | _, _ => Option.none
def delG (i j : Nat) (get : Nat → List Lf) : Nat → List Lf := fun t => if t < i then get t else get (t + (j - i))
def delO (T SZ f : Nat) : Oracle := fun f' args os =>
 match args, os with
 | [.one (.osl k g 0 n), .one li, .one lj], [.arr T' sz' g' n' get] =>
  match natOf li, natOf lj with
  | some i, some j => if (Nat.beq f' f && Nat.beq k pbase && Nat.beq g 0 && Nat.beq T' T && Nat.beq sz' SZ && Nat.beq g' 0 && Nat.beq n n' && Nat.blt i j && Nat.ble j n && Nat.ble n 1000000) then
    some (.one (.osl pbase 1 0 (n - (j - i))), [.arr T SZ 1 (n - (j - i)) (delG i j get)]) else Option.none
  | _, _ => Option.none
 | _, _ => Option.none
theorem Heap.change {objs : Nat → Option Ob} {E : Env} {I : Nat → Prop} {w : World} (h : Heap objs E I w) {w' : World} (k : Nat) (o o' : Ob) (hk : objs k = some o) (hw : Wst (fun b => Blk objs E k ∧ b = E.bl k) w w') (b : Nat) (hv : Value)
  (hb : (∀ el sz g n get, o' = .arr el sz g n get → hv ≠ .slice none 0 0) → (Blk objs E k ∧ b = E.bl k) ∨ (w.heap.size ≤ b ∧ b < w'.heap.size))
  (hE : ExtO E ⟨upd E.bl k b, upd E.hv k hv⟩ k o o')
  (ho : Move objs E I w (upd objs k (some o')) ⟨upd E.bl k b, upd E.hv k hv⟩ I w' → ObjR (upd objs k (some o')) ⟨upd E.bl k b, upd E.hv k hv⟩ I w' k o') :
  Heap (upd objs k (some o')) ⟨upd E.bl k b, upd E.hv k hv⟩ I w' ∧ Move objs E I w (upd objs k (some o')) ⟨upd E.bl k b, upd E.hv k hv⟩ I w' ∧
   (∀ j, Blk (upd objs k (some o')) ⟨upd E.bl k b, upd E.hv k hv⟩ j → (Blk objs E j ∧ upd E.bl k b j = E.bl j) ∨ w.heap.size ≤ upd E.bl k b j) ∧ Wst (In0 objs E) w w' := by
 have m : Move objs E I w (upd objs k (some o')) ⟨upd E.bl k b, upd E.hv k hv⟩ I w' := by
  refine ⟨?_, fun _ h => h, fun b hb => hw.block b (h.Ilt b hb) (fun e => h.imm k e.1 (e.2 ▸ hb))⟩
  intro j oj hj
  by_cases hjk : j = k
  ·subst hjk
   rw [hk] at hj; injection hj with hj; subst hj
   exact ⟨o', upd_same _ _ _, hE⟩
  ·exact ⟨oj, by rw [upd_ne _ _ hjk]; exact hj, ExtO.of_eq (upd_ne _ _ hjk) (upd_ne _ _ hjk) oj⟩
 have hbk : Blk (upd objs k (some o')) ⟨upd E.bl k b, upd E.hv k hv⟩ k → (Blk objs E k ∧ b = E.bl k) ∨ (w.heap.size ≤ b ∧ b < w'.heap.size) := by
  rintro ⟨o1, h1, h2⟩
  rw [upd_same] at h1; injection h1 with h1; subst h1
  refine hb (fun el sz g n get e => ?_)
  have := h2 el sz g n get e
  simpa [upd_same] using this
 have hsz := hw.size
 refine ⟨⟨?_, ?_, ?_, ?_, fun b hb => Nat.lt_of_lt_of_le (h.Ilt b hb) hw.size⟩, m, fun j hj => ?_, hw.mono (fun x hx => ⟨k, hx.1, hx.2⟩)⟩
 ·intro j oj hj
  by_cases hjk : j = k
  ·subst hjk; rw [upd_same] at hj; injection hj with hj; subst hj; exact ho m
  ·rw [upd_ne _ _ hjk] at hj
   exact m.obj (upd_ne _ _ hjk) (upd_ne _ _ hjk) (fun hh => hw.block _ (h.lt j ⟨oj, hj, hh⟩) (fun e => h.inj j k ⟨oj, hj, hh⟩ e.1 hjk e.2)) (h.objs j oj hj)
 ·intro j j' hj hj' hne'
  by_cases h1 : j = k
  ·subst h1
   have h2 : j' ≠ j := Ne.symm hne'
   show upd E.bl j b j ≠ upd E.bl j b j'
   rw [upd_same, upd_ne _ _ h2]
   have h3 := h.lt j' (hj'.of_upd h2)
   rcases hbk hj with ⟨h4, hb⟩ | ⟨hb, _⟩
   ·rw [hb]; exact h.inj j j' h4 (hj'.of_upd h2) hne'
   ·omega
  ·by_cases h2 : j' = k
   ·subst h2
    show upd E.bl j' b j ≠ upd E.bl j' b j'
    rw [upd_same, upd_ne _ _ h1]
    have h3 := h.lt j (hj.of_upd h1)
    rcases hbk hj' with ⟨h4, hb⟩ | ⟨hb, _⟩
    ·rw [hb]; exact h.inj j j' (hj.of_upd h1) h4 hne'
    ·omega
   ·show upd E.bl k b j ≠ upd E.bl k b j'
    rw [upd_ne _ _ h1, upd_ne _ _ h2]; exact h.inj j j' (hj.of_upd h1) (hj'.of_upd h2) hne'
 ·intro j hj
  by_cases hjk : j = k
  ·subst hjk; show ¬ I (upd E.bl j b j); rw [upd_same]
   rcases hbk hj with ⟨h4, hb⟩ | ⟨hb, _⟩
   ·rw [hb]; exact h.imm j h4
   ·exact fun hI => by have := h.Ilt b hI; omega
  ·show ¬ I (upd E.bl k b j); rw [upd_ne _ _ hjk]; exact h.imm j (hj.of_upd hjk)
 ·intro j hj
  by_cases hjk : j = k
  ·subst hjk; show upd E.bl j b j < _; rw [upd_same]
   rcases hbk hj with ⟨h4, hb⟩ | ⟨hb, _⟩
   ·rw [hb]; have := h.lt j h4; omega
   ·omega
  ·show upd E.bl k b j < _; rw [upd_ne _ _ hjk]; have := h.lt j (hj.of_upd hjk); omega
 ·by_cases hjk : j = k
  ·subst hjk; rw [upd_same]
   rcases hbk hj with ⟨h4, hb⟩ | ⟨hb, _⟩
   ·exact .inl ⟨h4, hb⟩
   ·exact .inr hb
  ·rw [upd_ne _ _ hjk]; exact .inl ⟨hj.of_upd hjk, rfl⟩
theorem objs0_upd (o o' : Ob) (rest : List Ob) : objs0 (o' :: rest) = upd (objs0 (o :: rest)) pbase (some o') := by
 funext k
 by_cases hk : k = pbase
 ·subst hk; rw [upd_same]; simp [objs0]
 ·rw [upd_ne _ _ hk]
  unfold objs0
  split
  ·rename_i h
   have : ∃ q, k - pbase = q + 1 := ⟨k - pbase - 1, by omega⟩
   obtain ⟨q, hq⟩ := this
   rw [hq, List.getElem?_cons_succ, List.getElem?_cons_succ]
  ·rfl
section
variable {P : Program} {T SZ : Nat}
theorem row_in (hfix : T < fixM) {rest : List Ob} {n : Nat} {get : Nat → List Lf} {E : Env} {I : Nat → Prop} {w : World} (h : Heap (objs0 (.arr T SZ 0 n get :: rest)) E I w) :
  ∃ xs, w.ownsRow 0 T SZ (E.hv pbase) n xs ∧ 0 < SZ ∧ (∀ g, (E.hv pbase).ownBlock = some g → Blk (objs0 (.arr T SZ 0 n get :: rest)) E pbase ∧ E.bl pbase = g) ∧
   (∀ i, i < n → (get i).length = SZ ∧ ∀ j, j < SZ → LRi I w ((get i).getD j default) (xs.getD (i * SZ + j) undef)) ∧ (∀ u ∈ xs, u.oneCell' = true) := by
 have hp : objs0 (.arr T SZ 0 n get :: rest) pbase = some (.arr T SZ 0 n get) := by simp [objs0]
 obtain ⟨xs, hown', hhv, hs, hget⟩ := h.objs pbase _ hp
 have hown := hown'.own hfix
 refine ⟨xs, hown, hs, fun g hg => ?_, hget, fun u hu => ?_⟩
 ·rcases hhv with h1 | ⟨cap, h1⟩
  ·rw [h1] at hg; cases hg
  ·refine ⟨⟨_, hp, fun _ _ _ _ _ _ => by rw [h1]; intro e; cases e⟩, ?_⟩
   rw [h1] at hg; exact Option.some.inj hg
 ·obtain ⟨q, hq, rfl⟩ := List.getElem_of_mem hu
  have hq' : q < n * SZ := by rw [← hown.1]; exact hq
  have h1 : q / SZ < n := (Nat.div_lt_iff_lt_mul hs).2 hq'
  have h2 := (hget (q / SZ) h1).2 (q % SZ) (Nat.mod_lt _ hs)
  rw [divmod SZ q hs] at h2
  have e : xs.getD q undef = xs[q] := by simp [hq]
  rw [e] at h2
  exact h2.one
theorem osl_val {rest : List Ob} {n : Nat} {get : Nat → List Lf} {E : Env} {I : Nat → Prop} {w : World} (h : Heap (objs0 (.arr T SZ 0 n get :: rest)) E I w) {v : Value} (hv : LR (objs0 (.arr T SZ 0 n get :: rest)) E I w (.osl pbase 0 0 n) v) : v = E.hv pbase := by
 have hp : objs0 (.arr T SZ 0 n get :: rest) pbase = some (.arr T SZ 0 n get) := by simp [objs0]
 obtain ⟨xs, hown, hhv, _, _⟩ := h.objs pbase _ hp
 cases hv with
 | imm _ _ hi => cases hi
 | osl k g off n' el sz g' m get' base cap' hk hg hh =>
  rw [hp] at hk
  injection hk with hk
  injection hk with _ _ hk hm _
  subst hk; subst hm
  rcases hh rfl (by omega) with ⟨h1, h2, h3, h4⟩ | ⟨o, cap, h1, h2, _, _, h5⟩
  ·rw [h1, h3, h4]
   simp only [Value.slice.injEq, true_and, and_true]
   exact h2
  ·obtain ⟨h6, h7⟩ := h5 rfl
   rw [h1, h2, h6, h7]
theorem row_post (hfix : T < fixM) {rest : List Ob} {n n' : Nat} {get get' : Nat → List Lf} {E : Env} {I : Nat → Prop} {w w' : World} (h : Heap (objs0 (.arr T SZ 0 n get :: rest)) E I w) {v' : Value} {xs' : List Value} (hs : 0 < SZ)
  (hw : Wst (fun k => some k = (E.hv pbase).ownBlock) w w') (hown : w'.ownsRow 0 T SZ v' n' xs')
  (hrow : v' = .slice none 0 0 ∨ ∃ g' cap', v' = .slice (some ⟨g', 0, none⟩) n' cap' ∧ ((E.hv pbase).ownBlock = some g' ∨ (w.heap.size ≤ g' ∧ g' < w'.heap.size)))
  (hget : ∀ i, i < n' → (get' i).length = SZ ∧ ∀ j, j < SZ → LRi I w ((get' i).getD j default) (xs'.getD (i * SZ + j) undef)) :
  ∃ v, v = v' ∧ ∃ I' E', Heap (objs0 (.arr T SZ 1 n' get' :: rest)) E' I' w' ∧ Ext (objs0 (.arr T SZ 0 n get :: rest)) E (objs0 (.arr T SZ 1 n' get' :: rest)) E' ∧ (∀ b, I b → I' b) ∧ (∀ b, I' b → I b ∨ w.heap.size ≤ b) ∧
   VR (objs0 (.arr T SZ 1 n' get' :: rest)) E' I' w' (.one (.osl pbase 1 0 n')) v ∧
   (∀ k, Blk (objs0 (.arr T SZ 1 n' get' :: rest)) E' k → (Blk (objs0 (.arr T SZ 0 n get :: rest)) E k ∧ E'.bl k = E.bl k) ∨ w.heap.size ≤ E'.bl k) ∧
   Wst (In0 (objs0 (.arr T SZ 0 n get :: rest)) E) w w' := by
 obtain ⟨xs, _, _, hblk, _, _⟩ := row_in hfix h
 have hp : objs0 (.arr T SZ 0 n get :: rest) pbase = some (.arr T SZ 0 n get) := by simp [objs0]
 obtain ⟨g, hg1, hg2⟩ : ∃ g, (v' = .slice none 0 0 ∨ ∃ cap, v' = .slice (some ⟨g, 0, none⟩) n' cap) ∧ (v' ≠ .slice none 0 0 → ((E.hv pbase).ownBlock = some g ∨ (w.heap.size ≤ g ∧ g < w'.heap.size))) := by
  rcases hrow with h1 | ⟨g, cap, h1, h2⟩
  ·exact ⟨0, .inl h1, fun h => absurd h1 h⟩
  ·exact ⟨g, .inr ⟨cap, h1⟩, fun _ => h2⟩
 obtain ⟨H, m, hB, hW⟩ := h.change (w' := w') pbase (.arr T SZ 0 n get) (.arr T SZ 1 n' get') hp (hw.mono (fun x hx => by obtain ⟨h1, h2⟩ := hblk x hx.symm; exact ⟨h1, h2.symm⟩)) g v'
  (fun hne => by
   rcases hg2 (hne _ _ _ _ _ rfl) with h1 | h1
   ·obtain ⟨h2, h3⟩ := hblk g h1
    exact .inl ⟨h2, h3.symm⟩
   ·exact .inr h1)
  ⟨1, n', get', rfl, Nat.zero_le _, fun e => absurd e (by decide)⟩
  (fun m => ⟨xs', by show rowW w' T SZ (upd E.hv pbase v' pbase) n' xs'; rw [upd_same]; exact rowW_of hown, by show upd E.hv pbase v' pbase = .slice none 0 0 ∨ ∃ cap, upd E.hv pbase v' pbase = .slice (some ⟨upd E.bl pbase g pbase, 0, none⟩) n' cap; rw [upd_same, upd_same]; exact hg1, hs, fun i hi => ⟨(hget i hi).1, fun j hj => m.lri ((hget i hi).2 j hj)⟩⟩)
 rw [← objs0_upd (.arr T SZ 0 n get) (.arr T SZ 1 n' get') rest] at H m hB
 have hp' : objs0 (.arr T SZ 1 n' get' :: rest) pbase = some (.arr T SZ 1 n' get') := by simp [objs0]
 refine ⟨v', rfl, I, _, H, m.ext, fun _ h => h, fun _ h => .inl h, .one _ _ ?_, hB, hW⟩
 have hz : v' = .slice none 0 0 → n' = 0 := by
  intro e
  rcases hown.2 with ⟨_, h0⟩ | ⟨_, _, _, he, _⟩
  ·exact h0
  ·rw [e] at he; cases he
 rcases hg1 with e1 | ⟨cap, e1⟩
 ·have h0 := hz e1
  subst e1; subst h0
  exact .osl _ _ _ _ _ _ _ _ _ none 0 hp' (Nat.le_refl _) (fun _ _ => .inl ⟨upd_same E.hv pbase _, rfl, rfl, rfl⟩)
 ·have hcap : n' ≤ cap := by
   rcases hown.2 with ⟨h1, _⟩ | ⟨_, _, _, he, _, _, h4, _⟩
   ·rw [e1] at h1; cases h1
   ·rw [e1] at he
    injection he with _ _ he
    rw [he]; exact h4
  subst e1
  exact .osl _ _ _ _ _ _ _ _ _ _ cap hp' (Nat.le_refl _) (fun _ _ => .inr ⟨0, cap, by
   show upd E.hv pbase (.slice (some ⟨g, 0, none⟩) n' cap) pbase = .slice (some ⟨upd E.bl pbase g pbase, 0, none⟩) n' cap
   rw [upd_same, upd_same], by
   show some (⟨g, 0, none⟩ : Addr) = some ⟨upd E.bl pbase g pbase, 0, none⟩
   rw [upd_same], .inr (by simp), hcap, fun _ => ⟨rfl, rfl⟩⟩)
theorem natOf_is {l : Lf} {i : Nat} (h : natOf l = some i) : l = .val (.int .i64 (i : Int)) := by
 unfold natOf at h
 split at h
 ·split at h
  ·rename_i n hn
   cases h
   rw [Int.toNat_of_nonneg hn]
  ·cases h
 ·cases h
theorem clean_lri {objs : Nat → Option Ob} {E : Env} {I : Nat → Prop} {w : World} {l : Lf} {v : Value} (h : LR objs E I w l v) (hc : l.clean true = true) : LRi I w l v := by
 cases h with
 | imm _ _ h => exact h
 | ptr => cases hc
 | eptr => cases hc
 | aptr => cases hc
 | osl => cases hc
 | csl => cases hc
 | mp => cases hc
 | fn => cases hc
theorem ins_getD {xs vs : List Value} {SZ n i : Nat} (hx : xs.length = n * SZ) (hv : vs.length = SZ) (hi : i ≤ n) {q j : Nat} (hq : q < n + 1) (hj : j < SZ) :
  (xs.take (i * SZ) ++ vs ++ xs.drop (i * SZ)).getD (q * SZ + j) undef = if q < i then xs.getD (q * SZ + j) undef else if q = i then vs.getD j undef else xs.getD ((q - 1) * SZ + j) undef := by
 have lt : (xs.take (i * SZ)).length = i * SZ := by
  rw [List.length_take, hx]
  have := Nat.mul_le_mul_right SZ hi
  omega
 have hin := Nat.mul_le_mul_right SZ hi
 split
 ·rename_i h
  have h1 := idx_lt h hj
  rw [List.getD_eq_getElem?_getD, List.getD_eq_getElem?_getD, List.append_assoc, List.getElem?_append_left (by omega), List.getElem?_take, if_pos h1]
 ·split
  ·rename_i h1 h2
   subst h2
   rw [List.getD_eq_getElem?_getD, List.getD_eq_getElem?_getD, List.append_assoc, List.getElem?_append_right (by omega), lt, List.getElem?_append_left (by omega)]
   congr 2; omega
  ·rename_i h1 h2
   obtain ⟨p, rfl⟩ : ∃ p, q = p + 1 := ⟨q - 1, by omega⟩
   have h3 : (p + 1) * SZ = p * SZ + SZ := Nat.succ_mul p SZ
   have h4 : i * SZ ≤ p * SZ := Nat.mul_le_mul_right SZ (by omega)
   rw [List.getD_eq_getElem?_getD, List.getD_eq_getElem?_getD, List.getElem?_append_right (by rw [List.length_append, lt, hv]; omega), List.length_append, lt, hv, List.getElem?_drop]
   congr 2
   simp only [Nat.add_sub_cancel]
   omega
theorem one_of {objs : Nat → Option Ob} {E : Env} {I : Nat → Prop} {w : World} {l : Lf} {v : Value} (h : VR objs E I w (.one l) v) : LR objs E I w l v := by
 cases h with
 | one _ _ h => exact h
theorem insO_meets (hfix : T < fixM) {f : Nat} (hp : ∃ fn, P.funcs[f]? = some fn ∧ fn.body.isNone = false ∧ (fn.name == "runtime.NumGoroutine") = false) (hw : InsertWalk P f T SZ) : Meets P (insO T SZ f) := by
 intro f' args os res os' h
 obtain ⟨i, n, get, cs, rfl, rfl, rfl, hcl, hcc, hin, hn, hr⟩ : ∃ i n get cs, f' = f ∧ args = [.one (.osl pbase 0 0 n), .one (.val (.int .i64 (i : Nat))), .one (.csl (pbase + 1) SZ 0 1)] ∧ os = [.arr T SZ 0 n get, .cells cs] ∧ cs.length = SZ ∧ cs.all (Lf.clean true) = true ∧ i ≤ n ∧ n ≤ 1000000 ∧
   (res, os') = (PV.one (.osl pbase 1 0 (n + 1)), [.arr T SZ 1 (n + 1) (insG n i get cs), .cells cs]) := by
  unfold insO at h
  split at h
  ·split at h
   ·rename_i i hi
    split at h
    ·rename_i hc
     simp only [Bool.and_eq_true, Nat.beq_eq, Nat.ble_eq] at hc
     obtain ⟨⟨⟨⟨⟨⟨⟨⟨⟨⟨⟨⟨rfl, rfl⟩, rfl⟩, rfl⟩, rfl⟩, rfl⟩, rfl⟩, rfl⟩, rfl⟩, h1⟩, h2⟩, h3⟩, h4⟩ := hc
     have hli := natOf_is hi
     subst hli
     exact ⟨i, _, _, _, rfl, rfl, rfl, h1, h2, h3, h4, (Option.some.inj h).symm⟩
    ·cases h
   ·cases h
  ·cases h
 obtain ⟨rfl, rfl⟩ := Prod.mk.inj hr
 refine ⟨hp, fun I w E vals hH hv hsz => ?_⟩
 obtain ⟨xs, hown, hs, hblk, hget, h1c⟩ := row_in hfix hH
 have hsz3 : vals.size = 3 := by simpa using hsz
 have v0 := one_of (hv 0)
 have v1 := one_of (hv 1)
 have v2 := one_of (hv 2)
 have e0 := osl_val hH v0
 have e1 : vals.getD 1 undef = .int .i64 (i : Nat) := by
  generalize vals.getD 1 undef = x at v1
  cases v1 with
  | imm _ _ h => cases h; rfl
 have p1 : objs0 [.arr T SZ 0 n get, .cells cs] (pbase + 1) = some (.cells cs) := two1
 obtain ⟨vc, e2⟩ : ∃ vc, vals.getD 2 undef = .slice (some ⟨E.bl (pbase + 1), 0, none⟩) 1 vc := by
  generalize vals.getD 2 undef = x at v2
  cases v2 with
  | imm _ _ h => cases h
  | csl k sz off n cap o ho hvv hnc => exact ⟨cap, rfl⟩
 obtain ⟨C, t, hC, hCs, hCc⟩ := hH.objs (pbase + 1) _ p1
 have ev : vals = #[E.hv pbase, .int .i64 (i : Nat), .slice (some ⟨E.bl (pbase + 1), 0, none⟩) 1 vc] := by
  apply Array.ext
  ·simp [hsz3]
  ·intro q h1 h2
   have : q = 0 ∨ q = 1 ∨ q = 2 := by omega
   rcases this with rfl | rfl | rfl
   ·simpa [Array.getD, hsz3] using e0
   ·simpa [Array.getD, hsz3] using e1
   ·simpa [Array.getD, hsz3] using e2
 subst ev
 have hlri : ∀ j, j < SZ → LRi I w (cs.getD j default) (C.getD j undef) := by
  intro j hj
  refine clean_lri (hCc j (by omega)) ?_
  have : cs.getD j default = cs[j]'(by omega) := by simp [show j < cs.length by omega]
  rw [this]
  exact List.all_eq_true.1 hcc _ (List.getElem_mem _)
 have hCsz : C.size = SZ := by rw [hCs, hcl]
 refine (hw (E.hv pbase) n i (E.bl (pbase + 1)) vc t C xs w hown h1c hC (fun hb => ?_) hCsz (fun u hu => ?_) hin hn).mono ?_
 ·obtain ⟨h1, h2⟩ := hblk _ hb
  exact hH.inj pbase (pbase + 1) h1 ⟨_, p1, fun _ _ _ _ _ e => by cases e⟩ (by omega) h2
 ·obtain ⟨j, hj, rfl⟩ := List.getElem_of_mem hu
  have hj' : j < C.size := by simpa using hj
  have := (hlri j (by omega)).one
  have e : C.getD j undef = C[j] := by simp [Array.getD, hj']
  rw [e] at this
  simpa using this
 rintro e w' ⟨v', rfl, hI⟩
 have hvl : C.toList.length = SZ := by rw [Array.length_toList, hCsz]
 obtain ⟨v, hvv, I', E', post⟩ := row_post hfix (n' := n + 1) (get' := insG n i get cs) hH hs hI.st hI.own (by
   obtain ⟨g, cap, h1, h2⟩ := hI.row
   exact .inr ⟨g, cap, h1, h2⟩) (fun q hq => by
   refine ⟨?_, fun j hj => ?_⟩
   ·unfold insG
    split
    ·exact (hget q (by omega)).1
    ·split
     ·exact hcl
     ·exact (hget (q - 1) (by omega)).1
   ·rw [ins_getD hown.1 hvl hin hq hj]
    unfold insG
    split
    ·exact (hget q (by omega)).2 j hj
    ·split
     ·have e : C.toList.getD j undef = C.getD j undef := by simp [Array.getD, List.getD, show j < C.size by omega]
      rw [e]; exact hlri j hj
     ·exact (hget (q - 1) (by omega)).2 j hj)
 subst hvv
 exact ⟨v, I', E', rfl, post⟩
theorem del_getD {xs : List Value} {SZ n i k : Nat} (hx : xs.length = n * SZ) (hk : i ≤ k) (hkn : k ≤ n) {q j : Nat} (hj : j < SZ) :
  (xs.take (i * SZ) ++ xs.drop (k * SZ)).getD (q * SZ + j) undef = if q < i then xs.getD (q * SZ + j) undef else xs.getD ((q + (k - i)) * SZ + j) undef := by
 have h1 := Nat.mul_le_mul_right SZ hk
 have h2 := Nat.mul_le_mul_right SZ hkn
 have lt : (xs.take (i * SZ)).length = i * SZ := by rw [List.length_take, hx]; omega
 split
 ·rename_i h
  have h3 := idx_lt h hj
  rw [List.getD_eq_getElem?_getD, List.getD_eq_getElem?_getD, List.getElem?_append_left (by omega), List.getElem?_take, if_pos h3]
 ·rename_i h
  have h3 : i * SZ ≤ q * SZ := Nat.mul_le_mul_right SZ (by omega)
  have h4 : (q + (k - i)) * SZ = q * SZ + (k * SZ - i * SZ) := by rw [Nat.add_mul, Nat.sub_mul]
  rw [List.getD_eq_getElem?_getD, List.getD_eq_getElem?_getD, List.getElem?_append_right (by omega), lt, List.getElem?_drop, h4]
  congr 2
  omega
theorem delO_meets (hfix : T < fixM) {f : Nat} (hp : ∃ fn, P.funcs[f]? = some fn ∧ fn.body.isNone = false ∧ (fn.name == "runtime.NumGoroutine") = false) (hw : DeleteWalk P f T SZ) : Meets P (delO T SZ f) := by
 intro f' args os res os' h
 obtain ⟨i, k, n, get, rfl, rfl, rfl, hik, hkn, hn, hr⟩ : ∃ i k n get, f' = f ∧ args = [.one (.osl pbase 0 0 n), .one (.val (.int .i64 (i : Nat))), .one (.val (.int .i64 (k : Nat)))] ∧ os = [.arr T SZ 0 n get] ∧ i < k ∧ k ≤ n ∧ n ≤ 1000000 ∧
   (res, os') = (PV.one (.osl pbase 1 0 (n - (k - i))), [.arr T SZ 1 (n - (k - i)) (delG i k get)]) := by
  unfold delO at h
  split at h
  ·split at h
   ·rename_i i k hi hk
    split at h
    ·rename_i hc
     simp only [Bool.and_eq_true, Nat.beq_eq, Nat.ble_eq, Nat.blt_eq] at hc
     obtain ⟨⟨⟨⟨⟨⟨⟨⟨⟨rfl, rfl⟩, rfl⟩, rfl⟩, rfl⟩, rfl⟩, rfl⟩, h1⟩, h2⟩, h3⟩ := hc
     have hli := natOf_is hi
     have hlk := natOf_is hk
     subst hli; subst hlk
     exact ⟨i, k, _, _, rfl, rfl, rfl, h1, h2, h3, (Option.some.inj h).symm⟩
    ·cases h
   ·cases h
  ·cases h
 obtain ⟨rfl, rfl⟩ := Prod.mk.inj hr
 refine ⟨hp, fun I w E vals hH hv hsz => ?_⟩
 obtain ⟨xs, hown, hs, hblk, hget, h1c⟩ := row_in hfix hH
 have hsz3 : vals.size = 3 := by simpa using hsz
 have v0 := one_of (hv 0)
 have v1 := one_of (hv 1)
 have v2 := one_of (hv 2)
 have e0 := osl_val hH v0
 have e1 : vals.getD 1 undef = .int .i64 (i : Nat) := by
  generalize vals.getD 1 undef = x at v1
  cases v1 with
  | imm _ _ h => cases h; rfl
 have e2 : vals.getD 2 undef = .int .i64 (k : Nat) := by
  generalize vals.getD 2 undef = x at v2
  cases v2 with
  | imm _ _ h => cases h; rfl
 have ev : vals = #[E.hv pbase, .int .i64 (i : Nat), .int .i64 (k : Nat)] := by
  apply Array.ext
  ·simp [hsz3]
  ·intro q h1 h2
   have : q = 0 ∨ q = 1 ∨ q = 2 := by omega
   rcases this with rfl | rfl | rfl
   ·simpa [Array.getD, hsz3] using e0
   ·simpa [Array.getD, hsz3] using e1
   ·simpa [Array.getD, hsz3] using e2
 subst ev
 refine (hw (E.hv pbase) n i k xs w hown h1c hik hkn hn).mono ?_
 rintro e w' ⟨v', rfl, hI⟩
 obtain ⟨v, hvv, I', E', post⟩ := row_post hfix (n' := n - (k - i)) (get' := delG i k get) hH hs hI.st hI.own (by
   obtain ⟨g, cap, h1, h2⟩ := hI.row
   exact .inr ⟨g, cap, h2, .inl (by rw [h1]; rfl)⟩) (fun q hq => by
   refine ⟨?_, fun j hj => ?_⟩
   ·unfold delG
    split
    ·exact (hget q (by omega)).1
    ·exact (hget _ (by omega)).1
   ·rw [del_getD hown.1 (by omega) hkn hj]
    unfold delG
    split
    ·exact (hget q (by omega)).2 j hj
    ·exact (hget _ (by omega)).2 j hj)
 subst hvv
 exact ⟨v, I', E', rfl, post⟩
theorem objs0_one (o : Ob) : objs0 [o] = upd (objs0 []) pbase (some o) := by
 funext k
 by_cases hk : k = pbase
 ·subst hk; rw [upd_same]; simp [objs0]
 ·rw [upd_ne _ _ hk]
  unfold objs0
  split
  ·rename_i h
   have : ∃ q, k - pbase = q + 1 := ⟨k - pbase - 1, by omega⟩
   obtain ⟨q, hq⟩ := this
   rw [hq]; simp
  ·rfl
theorem cloneO_meets {f : Nat} (hs : 0 < SZ) (hp : ∃ fn, P.funcs[f]? = some fn ∧ fn.body.isNone = false ∧ (fn.name == "runtime.NumGoroutine") = false) (hw : CloneWalk P f T SZ) : Meets P (cloneO T SZ f) := by
 intro f' args os res os' h
 obtain ⟨n, get, rfl, rfl, rfl, hn, hr⟩ : ∃ n get, f' = f ∧ args = [.one (.view SZ n get)] ∧ os = [] ∧ n ≤ 1000000 ∧ (res, os') = (PV.one (.osl pbase 0 0 n), [Ob.arr T SZ 0 n (fun i => if i < n then get i else [])]) := by
  unfold cloneO at h
  split at h
  ·split at h
   ·rename_i hc
    simp only [Bool.and_eq_true, Nat.beq_eq, Nat.ble_eq] at hc
    obtain ⟨⟨rfl, rfl⟩, h1⟩ := hc
    exact ⟨_, _, rfl, rfl, rfl, h1, (Option.some.inj h).symm⟩
   ·cases h
  ·cases h
 obtain ⟨rfl, rfl⟩ := Prod.mk.inj hr
 refine ⟨hp, fun I w E vals hH hv hsz => ?_⟩
 have hsz1 : vals.size = 1 := by simpa using hsz
 have v0 := one_of (hv 0)
 obtain ⟨base, cap, e0, hL⟩ : ∃ base cap, vals.getD 0 undef = .slice base n cap ∧ LRi I w (.view SZ n get) (.slice base n cap) := by
  generalize vals.getD 0 undef = x at v0
  cases v0 with
  | imm _ _ h =>
   cases h with
   | view _ _ _ base cap vv h1 h2 h3 h4 => exact ⟨base, cap, rfl, .view _ _ _ base cap vv h1 h2 h3 h4⟩
 have ev : vals = #[.slice base n cap] := by
  apply Array.ext
  ·simp [hsz1]
  ·intro q h1 h2
   have : q = 0 := by omega
   subst this
   simpa [Array.getD, hsz1] using e0
 subst ev
 obtain ⟨xs, S⟩ := src_view hs hL
 refine (hw base n cap xs w S.len S.nobase S.cell S.one hn).mono ?_
 rintro e w' ⟨v', rfl, hC⟩
 obtain ⟨g, hg1, hg2⟩ : ∃ g, (v' = .slice none 0 0 ∨ ∃ cap, v' = .slice (some ⟨g, 0, none⟩) n cap) ∧ (v' ≠ .slice none 0 0 → w.heap.size ≤ g ∧ g < w'.heap.size) := by
  rcases hC.row with h1 | ⟨g, cap, h1, h2⟩
  ·exact ⟨0, .inl h1, fun h => absurd h1 h⟩
  ·exact ⟨g, .inr ⟨cap, h1⟩, fun _ => h2⟩
 have hk0 : objs0 [] pbase = none := by simp [objs0]
 obtain ⟨H, m⟩ := hH.fresh hC.st pbase hk0 (.arr T SZ 0 n (fun i => if i < n then get i else [])) g v' (fun hne => hg2 (hne _ _ _ _ _ rfl))
  (fun m => ⟨xs, by show rowW w' T SZ (upd E.hv pbase v' pbase) n xs; rw [upd_same]; exact rowW_of hC.own, by show upd E.hv pbase v' pbase = .slice none 0 0 ∨ ∃ cap, upd E.hv pbase v' pbase = .slice (some ⟨upd E.bl pbase g pbase, 0, none⟩) n cap; rw [upd_same, upd_same]; exact hg1, hs, fun i hi => by
   simp only [if_pos hi]
   exact ⟨(S.get i hi).1, fun j hj => m.lri ((S.get i hi).2 j hj)⟩⟩)
 rw [← objs0_one] at H m
 have hp' : objs0 [.arr T SZ 0 n (fun i => if i < n then get i else [])] pbase = some (.arr T SZ 0 n (fun i => if i < n then get i else [])) := by simp [objs0]
 have h0 : ∀ k, ¬ Blk (objs0 []) E k := fun k ⟨o, ho, _⟩ => by
  have := (objs0_some ho).2.1
  simp at this
 refine ⟨v', I, _, rfl, H, m.ext, fun _ h => h, fun _ h => .inl h, .one _ _ ?_, ?_, hC.st.mono (fun x hx => hx.elim)⟩
 ·have hz : v' = .slice none 0 0 → n = 0 := by
   intro e
   rcases hC.own.2 with ⟨_, h0⟩ | ⟨_, _, _, he, _⟩
   ·exact h0
   ·rw [e] at he; cases he
  rcases hg1 with e1 | ⟨cap, e1⟩
  ·have h0 := hz e1
   subst e1; subst h0
   exact .osl _ _ _ _ _ _ _ _ _ none 0 hp' (Nat.le_refl _) (fun _ _ => .inl ⟨upd_same E.hv pbase _, rfl, rfl, rfl⟩)
  ·have hcap : n ≤ cap := by
    rcases hC.own.2 with ⟨h1, _⟩ | ⟨_, _, _, he, _, _, h4, _⟩
    ·rw [e1] at h1; cases h1
    ·rw [e1] at he
     injection he with _ _ he
     rw [he]; exact h4
   subst e1
   exact .osl _ _ _ _ _ _ _ _ _ _ cap hp' (Nat.le_refl _) (fun _ _ => .inr ⟨0, cap, by
    show upd E.hv pbase (.slice (some ⟨g, 0, none⟩) n cap) pbase = .slice (some ⟨upd E.bl pbase g pbase, 0, none⟩) n cap
    rw [upd_same, upd_same], by
    show some (⟨g, 0, none⟩ : Addr) = some ⟨upd E.bl pbase g pbase, 0, none⟩
    rw [upd_same], .inr (by simp), hcap, fun _ => ⟨rfl, rfl⟩⟩)
 ·intro k hk
  have hkp : k = pbase := by
   obtain ⟨o, ho, _⟩ := hk
   have := (objs0_some ho).2.1
   simp at this
   have := (objs0_some ho).1
   omega
  subst hkp
  right
  show w.heap.size ≤ upd E.bl pbase g pbase
  rw [upd_same]
  obtain ⟨o, ho, hne⟩ := hk
  rw [hp'] at ho
  have := hne _ _ _ _ _ (Option.some.inj ho).symm
  exact (hg2 (by
   intro e
   exact this (by show upd E.hv pbase v' pbase = _; rw [upd_same]; exact e))).1
end
end Go.Rx
