/- No condition. -/
import Derived.Test.YtobeamaaifgllaaRxBa
namespace Go.Rx
open Go Go.RowKit Go.Shelf Go.Proofs
def selfP : Lf → Bool
 | .val (.pointer none) => true
 | .ptr k 0 => Nat.beq k pbase
 | _ => false
def byteB (x : Int) : Bool := decide (0 ≤ x) && decide (x < 256)
def bldW (T e fW : Nat) : Oracle := fun f args os =>
 match args, os with
 | [.one (.ptr k 0), .one (.val (.string s))], [.tcells T' [a, .osl k1 g 0 n], .arr e' sz g' n' get] =>
  if (Nat.beq f fW && Nat.beq k pbase && Nat.beq T' T && selfP a && Nat.beq k1 (pbase + 1) && Nat.beq g 0 && Nat.beq g' 0 && Nat.beq n n' && Nat.beq e' e && Nat.beq sz 1 && Nat.ble (n + s.size) 140737488355328) then
   some (.tup [.one (.val (.int .i64 s.size)), .one (.val .nilIface)], [.tcells T [.ptr pbase 0, .osl (pbase + 1) 1 0 (n + s.size)],
    .arr e 1 1 (n + s.size) (fun i => if i < n then get i else ((bytesL s).map fun x => [Lf.val (.int .u8 x)]).getD (i - n) [])])
  else Option.none
 | _, _ => Option.none
def bldS (T e fS : Nat) : Oracle := fun f args os =>
 match args, os with
 | [.one (.ptr k 0)], [.tcells T' [a, .osl k1 g 0 n], .arr e' sz g' n' get] =>
  if (Nat.beq f fS && Nat.beq k pbase && Nat.beq T' T && selfP a && Nat.beq k1 (pbase + 1) && Nat.beq g 0 && Nat.beq g' 0 && Nat.beq n n' && Nat.beq e' e && Nat.beq sz 1 && Nat.blt 0 n) then
   match bytesAt get n with
   | some l => if l.all byteB then some (.one (.val (.string (mkStr l))), [.tcells T [a, .osl (pbase + 1) 0 0 n], .arr e 1 1 0 fun _ => []]) else Option.none
   | Option.none => Option.none
  else Option.none
 | _, _ => Option.none
def bldO (T e fW fS : Nat) : Oracle := fun f args os => match bldW T e fW f args os with
 | some r => some r
 | Option.none => bldS T e fS f args os
section
variable {T e fW fS f : Nat} {args : List PV} {os : List Ob} {r : PV × List Ob}
theorem bldW_inv (h : bldW T e fW f args os = some r) : ∃ s a n get, f = fW ∧ args = [.one (.ptr pbase 0), .one (.val (.string s))] ∧ os = [.tcells T [a, .osl (pbase + 1) 0 0 n], .arr e 1 0 n get] ∧ selfP a = true ∧ n + s.size ≤ 140737488355328 ∧
  r = (.tup [.one (.val (.int .i64 s.size)), .one (.val .nilIface)], [.tcells T [.ptr pbase 0, .osl (pbase + 1) 1 0 (n + s.size)], .arr e 1 1 (n + s.size) (fun i => if i < n then get i else ((bytesL s).map fun x => [Lf.val (.int .u8 x)]).getD (i - n) [])]) := by
 unfold bldW at h
 split at h
 ·split at h
  ·rename_i hc
   simp only [Bool.and_eq_true, Nat.beq_eq, Nat.ble_eq] at hc
   obtain ⟨⟨⟨⟨⟨⟨⟨⟨⟨⟨rfl, rfl⟩, rfl⟩, ha⟩, rfl⟩, rfl⟩, rfl⟩, rfl⟩, rfl⟩, rfl⟩, hl⟩ := hc
   exact ⟨_, _, _, _, rfl, rfl, rfl, ha, hl, (Option.some.inj h).symm⟩
  ·cases h
 ·cases h
theorem bldS_inv (h : bldS T e fS f args os = some r) : ∃ a n get l, f = fS ∧ args = [.one (.ptr pbase 0)] ∧ os = [.tcells T [a, .osl (pbase + 1) 0 0 n], .arr e 1 0 n get] ∧ selfP a = true ∧ 0 < n ∧ bytesAt get n = some l ∧ l.all byteB = true ∧
  r = (.one (.val (.string (mkStr l))), [.tcells T [a, .osl (pbase + 1) 0 0 n], .arr e 1 1 0 fun _ => []]) := by
 unfold bldS at h
 split at h
 ·split at h
  ·rename_i hc
   simp only [Bool.and_eq_true, Nat.beq_eq, Nat.blt_eq] at hc
   obtain ⟨⟨⟨⟨⟨⟨⟨⟨⟨⟨rfl, rfl⟩, rfl⟩, ha⟩, rfl⟩, rfl⟩, rfl⟩, rfl⟩, rfl⟩, rfl⟩, hl⟩ := hc
   split at h
   ·rename_i l hb
    split at h
    ·rename_i hall
     exact ⟨_, _, _, l, rfl, rfl, rfl, ha, hl, hb, hall, (Option.some.inj h).symm⟩
    ·cases h
   ·cases h
  ·cases h
 ·cases h
end
section
variable {E : Env} {I : Nat → Prop} {w : World} {T e n : Nat} {a : Lf} {get : Nat → List Lf}
structure Bld (T e : Nat) (a : Lf) (n : Nat) (get : Nat → List Lf) (E : Env) (I : Nat → Prop) (w : World) (p : Value) (xs : List Value) : Prop where
 at_ : BldAt T e (E.bl pbase) p (E.hv (pbase + 1)) xs w
 la : LR (objs0 [.tcells T [a, .osl (pbase + 1) 0 0 n], .arr e 1 0 n get]) E I w a p
 len : xs.length = n
 blk : ∀ g, (E.hv (pbase + 1)).ownBlock = some g → Blk (objs0 [.tcells T [a, .osl (pbase + 1) 0 0 n], .arr e 1 0 n get]) E (pbase + 1) ∧ E.bl (pbase + 1) = g
 hv : E.hv (pbase + 1) = .slice none 0 0 ∧ n = 0 ∨ ∃ cap, E.hv (pbase + 1) = .slice (some ⟨E.bl (pbase + 1), 0, none⟩) n cap
 get : ∀ i, i < n → (get i).length = 1 ∧ LRi I w ((get i).getD 0 default) (xs.getD i undef)
theorem two0 {o1 o2 : Ob} : objs0 [o1, o2] pbase = some o1 := by simp [objs0, pbase]
theorem two1 {o1 o2 : Ob} : objs0 [o1, o2] (pbase + 1) = some o2 := by simp [objs0, pbase]
theorem two_some {o1 o2 o : Ob} {k : Nat} (h : objs0 [o1, o2] k = some o) : (k = pbase ∧ o = o1) ∨ (k = pbase + 1 ∧ o = o2) := by
 obtain ⟨h1, h2, h3⟩ := objs0_some h
 simp only [List.length_cons, List.length_nil] at h2
 rcases (by omega : k - pbase = 0 ∨ k - pbase = 1) with e | e
 ·rw [e] at h3; exact .inl ⟨by omega, by simpa using h3.symm⟩
 ·rw [e] at h3; exact .inr ⟨by omega, by simpa using h3.symm⟩
theorem bld_of (hfix : e < fixM) (h : Heap (objs0 [.tcells T [a, .osl (pbase + 1) 0 0 n], .arr e 1 0 n get]) E I w) (ha : selfP a = true) : ∃ p xs, Bld T e a n get E I w p xs := by
 obtain ⟨C, hC, hs, hc⟩ := h.objs pbase _ two0
 obtain ⟨xs, hown', hhv, _, hget⟩ := h.objs (pbase + 1) _ two1
 have hown := hown'.own hfix
 have hs2 : C.size = 2 := by simpa using hs
 have c0 := hc 0 (by simp)
 have c1 := hc 1 (by simp)
 simp only [List.getD_cons_zero, List.getD_cons_succ] at c0 c1
 have hv1 : C.getD 1 undef = E.hv (pbase + 1) := by
  generalize C.getD 1 undef = v1 at c1
  cases c1 with
  | imm _ _ hi => cases hi
  | osl k g off n' el sz g' m get' base cap' hk hg hh =>
   rw [two1] at hk
   injection hk with hk
   injection hk with _ _ hk _ _
   subst hk
   rename_i hkk
   rcases hh rfl (by simp at *; omega) with ⟨h1, h2, h3, h4⟩ | ⟨o, cap, h1, h2, _, _, h5⟩
   ·rw [h1, h3, h4]
    simp only [Value.slice.injEq, true_and, and_true]
    rw [h1] at hhv
    have := hown.1
    rcases hown.2 with ⟨_, h0⟩ | ⟨_, _, _, he, _⟩
    ·exact h0
    ·rw [h1] at he; cases he
   ·obtain ⟨h6, h7⟩ := h5 rfl
    rw [h1, h2, h6, h7]
    rcases hown.2 with ⟨he, _⟩ | ⟨_, _, _, he, _⟩
    ·rw [h1] at he; cases he
    ·rw [h1] at he
     injection he with _ he _
     rw [he]
 have hl : xs.length = n := by simpa using hown.1
 have hCe : C = #[C.getD 0 undef, C.getD 1 undef] := by
  apply Array.ext
  ·simp [hs2]
  ·intro i h1 h2
   have : i = 0 ∨ i = 1 := by omega
   rcases this with rfl | rfl <;> simp [Array.getD, hs2]
 have hp : C.getD 0 undef = .pointer none ∨ C.getD 0 undef = .pointer (some ⟨E.bl pbase, 0, none⟩) := by
  generalize C.getD 0 undef = v0 at c0
  unfold selfP at ha
  split at ha
  ·cases c0 with
   | imm _ _ hi => cases hi; exact .inl rfl
  ·rw [Nat.beq_eq] at ha
   subst ha
   cases c0 with
   | imm _ _ hi => cases hi
   | ptr => exact .inr rfl
  ·cases ha
 have hb1 : E.hv (pbase + 1) ≠ .slice none 0 0 → Blk (objs0 [.tcells T [a, .osl (pbase + 1) 0 0 n], .arr e 1 0 n get]) E (pbase + 1) := fun hne => ⟨_, two1, fun _ _ _ _ _ _ => hne⟩
 have hbb : ∀ g, (E.hv (pbase + 1)).ownBlock = some g → Blk (objs0 [.tcells T [a, .osl (pbase + 1) 0 0 n], .arr e 1 0 n get]) E (pbase + 1) ∧ E.bl (pbase + 1) = g := by
  intro g hg
  rcases hhv with h1 | ⟨cap, h1⟩
  ·rw [h1] at hg; cases hg
  ·refine ⟨hb1 (by rw [h1]; intro e; cases e), ?_⟩
   rw [h1] at hg; exact Option.some.inj hg
 refine ⟨C.getD 0 undef, xs, ⟨?_, hp, by rw [hl]; exact hown, ?_⟩, c0, hl, hbb, ?_, fun i hi => ?_⟩
 ·rw [hC, hCe, hv1]; simp
 ·intro hg
  obtain ⟨h1, h2⟩ := hbb _ hg
  exact h.inj pbase (pbase + 1) ⟨_, two0, fun _ _ _ _ _ e => by cases e⟩ h1 (by omega) h2.symm
 ·rcases hhv with h1 | h1
  ·rcases hown.2 with ⟨_, h0⟩ | ⟨_, _, _, he, _⟩
   ·exact .inl ⟨h1, h0⟩
   ·rw [h1] at he; cases he
  ·exact .inr h1
 ·obtain ⟨h1, h2⟩ := hget i hi
  have := h2 0 (by omega)
  exact ⟨h1, by simpa using this⟩
end
section
variable {P : Program} {ρ : Ren}
theorem bldW_meets (hfix : ρ.t 5 < fixM) (hp : ∃ fn, P.funcs[ρ.f 166]? = some fn ∧ fn.body.isNone = false ∧ (fn.name == "runtime.NumGoroutine") = false) (L : Lays.n166 P ρ) (X : Builder.Extra P ρ) : Meets P (bldW (ρ.t 72) (ρ.t 5) (ρ.f 166)) := by
 intro f args os res os' h
 obtain ⟨s, a, n, get, rfl, rfl, rfl, ha, hl, hr⟩ := bldW_inv h
 obtain ⟨rfl, rfl⟩ := Prod.mk.inj hr
 refine ⟨hp, fun I w E vals hH hv hsz => ?_⟩
 obtain ⟨p, xs, B⟩ := bld_of hfix hH ha
 have hsz2 : vals.size = 2 := by simpa using hsz
 have v0 := hv 0
 have v1 := hv 1
 simp only [List.getD_cons_zero, List.getD_cons_succ] at v0 v1
 have e0 : vals.getD 0 undef = .pointer (some ⟨E.bl pbase, 0, none⟩) := by
  generalize vals.getD 0 undef = x at v0
  cases v0 with
  | one _ _ h => cases h with
   | imm _ _ h => cases h
   | ptr => rfl
 have e1 : vals.getD 1 undef = .string s := by
  generalize vals.getD 1 undef = x at v1
  cases v1 with
  | one _ _ h => cases h with
   | imm _ _ h => cases h; rfl
 have ev : vals = #[.pointer (some ⟨E.bl pbase, 0, none⟩), .string s] := by
  apply Array.ext
  ·simp [hsz2]
  ·intro i h1 h2
   have : i = 0 ∨ i = 1 := by omega
   rcases this with rfl | rfl
   ·simpa [Array.getD, hsz2] using e0
   ·simpa [Array.getD, hsz2] using e1
 subst ev
 refine (bld_write L X (E.bl pbase) p (E.hv (pbase + 1)) xs s w B.at_ (by rw [B.len]; exact hl)).mono ?_
 rintro e w' ⟨rfl, v', hB, hrow, hw⟩
 have hlen : (xs ++ Lib.strCells s).length = n + s.size := by rw [List.length_append, Lib.strCells_length, B.len]
 have blk0 : Blk (objs0 [.tcells (ρ.t 72) [a, .osl (pbase + 1) 0 0 n], .arr (ρ.t 5) 1 0 n get]) E pbase := ⟨_, two0, fun _ _ _ _ _ e => by cases e⟩
 have same : ∀ b, I b → w'.heap[b]? = w.heap[b]? := by
  intro b hb
  refine hw.block b (hH.Ilt b hb) (fun hc => ?_)
  rcases hc with rfl | hc
  ·exact hH.imm _ blk0 hb
  ·obtain ⟨h1, h2⟩ := B.blk b hc.symm
   exact hH.imm _ h1 (h2 ▸ hb)
 have hblt := heap_lt hB.blk
 -- the new block of the row
 obtain ⟨g, hg1, hg2⟩ : ∃ g, (v' = .slice none 0 0 ∧ n + s.size = 0 ∨ ∃ cap, v' = .slice (some ⟨g, 0, none⟩) (n + s.size) cap) ∧ (v' ≠ .slice none 0 0 → ((E.hv (pbase + 1)).ownBlock = some g ∨ (w.heap.size ≤ g ∧ g < w'.heap.size)) ∧ g ≠ E.bl pbase) := by
  rcases hrow.is with ⟨h1, _, h3⟩ | ⟨g, cap, h1, h2⟩
  ·exact ⟨0, .inl ⟨h1, by rw [← B.len]; exact h3⟩, fun h => absurd h1 h⟩
  ·rw [B.len] at h1
   refine ⟨g, .inr ⟨cap, h1⟩, fun _ => ⟨h2, fun e => ?_⟩⟩
   have := hB.ne
   rw [h1, e] at this
   exact this rfl
 let os' : List Ob := [.tcells (ρ.t 72) [.ptr pbase 0, .osl (pbase + 1) 1 0 (n + s.size)], .arr (ρ.t 5) 1 1 (n + s.size) (fun i => if i < n then get i else ((bytesL s).map fun x => [Lf.val (.int .u8 x)]).getD (i - n) [])]
 let E' : Env := ⟨upd E.bl (pbase + 1) g, upd E.hv (pbase + 1) v'⟩
 have b0 : E'.bl pbase = E.bl pbase := by
  have : pbase ≠ pbase + 1 := by omega
  exact upd_ne E.bl g this
 have b1 : E'.bl (pbase + 1) = g := upd_same E.bl (pbase + 1) g
 have h1 : E'.hv (pbase + 1) = v' := upd_same E.hv (pbase + 1) v'
 have p0 : objs0 os' pbase = some (.tcells (ρ.t 72) [.ptr pbase 0, .osl (pbase + 1) 1 0 (n + s.size)]) := two0
 have p1 : objs0 os' (pbase + 1) = some (.arr (ρ.t 5) 1 1 (n + s.size) (fun i => if i < n then get i else ((bytesL s).map fun x => [Lf.val (.int .u8 x)]).getD (i - n) [])) := two1
 have vne : Blk (objs0 os') E' (pbase + 1) → v' ≠ .slice none 0 0 := by
  rintro ⟨o, ho, hn⟩
  rw [p1] at ho
  have := hn _ _ _ _ _ (Option.some.inj ho).symm
  rwa [h1] at this
 have bk : ∀ k, Blk (objs0 os') E' k → k = pbase ∨ k = pbase + 1 := by
  rintro k ⟨o, ho, _⟩
  rcases two_some ho with ⟨h, _⟩ | ⟨h, _⟩
  ·exact .inl h
  ·exact .inr h
 refine ⟨_, I, E', rfl, ⟨?_, ?_, ?_, ?_, fun b hb => Nat.lt_of_lt_of_le (hH.Ilt b hb) hw.size⟩, ?_, fun _ h => h, fun _ h => .inl h, ?_, ?_, ?_⟩
 ·intro k o hk
  rcases two_some hk with ⟨rfl, rfl⟩ | ⟨rfl, rfl⟩
  ·refine ⟨#[.pointer (some ⟨E.bl pbase, 0, none⟩), v'], ?_, rfl, ?_⟩
   ·rw [b0]; exact hB.blk
   ·intro j hj
    have : j = 0 ∨ j = 1 := by simp at hj; omega
    rcases this with rfl | rfl
    ·have := LR.ptr (E := E') (I := I) (w := w') pbase 0 _ p0 rfl
     rw [b0] at this
     exact this
    ·show LR (objs0 os') E' I w' (.osl (pbase + 1) 1 0 (n + s.size)) v'
     rcases hg1 with ⟨e1, e2⟩ | ⟨cap, e1⟩
     ·rw [e2, e1]
      refine .osl _ _ _ _ _ _ _ _ _ none 0 p1 (Nat.le_refl _) (fun _ _ => .inl ⟨by rw [h1]; exact e1, e2, rfl, rfl⟩)
     ·rw [e1]
      refine .osl _ _ _ _ _ _ _ _ _ _ cap p1 (Nat.le_refl _) (fun _ _ => .inr ⟨0, cap, by rw [h1, b1]; exact e1, by rw [b1], .inr (by simp), ?_, fun _ => ⟨rfl, rfl⟩⟩)
      have := hB.own
      rw [e1] at this
      rcases this.2 with ⟨h, _⟩ | ⟨_, _, _, h, _, _, h4, _⟩
      ·cases h
      ·rw [hlen] at h4
       injection h with _ _ h
       rw [h]; exact h4
  ·refine ⟨xs ++ Lib.strCells s, ?_, ?_, by omega, ?_⟩
   ·rw [h1]
    have := hB.own
    rw [hlen] at this
    exact rowW_of this
   ·rw [h1, b1]
    rcases hg1 with ⟨e1, _⟩ | e1
    ·exact .inl e1
    ·exact .inr e1
   ·intro i hi
    by_cases hin : i < n
    ·simp only [if_pos hin]
     obtain ⟨g1, g2⟩ := B.get i hin
     refine ⟨g1, fun j hj => ?_⟩
     have : j = 0 := by omega
     subst this
     have : (xs ++ Lib.strCells s).getD (i * 1 + 0) undef = xs.getD i undef := by
      rw [List.getD_eq_getElem?_getD, List.getD_eq_getElem?_getD, Nat.mul_one, Nat.add_zero, List.getElem?_append_left (by rw [B.len]; exact hin)]
     rw [this]
     exact g2.mono (fun _ h => h) same
    ·simp only [if_neg hin]
     have hi2 : i - n < s.data.toList.length := by
      have : s.data.toList.length = s.size := by rw [Array.length_toList]; rfl
      omega
     have ee : ((bytesL s).map fun x => [Lf.val (.int .u8 x)]).getD (i - n) [] = [Lf.val (.int .u8 ((s.data.toList[i - n]).toNat : Int))] := by
      simp only [bytesL, List.map_map, List.getD_eq_getElem?_getD, List.getElem?_map, List.getElem?_eq_getElem hi2]
      rfl
     rw [ee]
     refine ⟨rfl, fun j hj => ?_⟩
     have : j = 0 := by omega
     subst this
     have : (xs ++ Lib.strCells s).getD (i * 1 + 0) undef = .int .u8 ((s.data.toList[i - n]).toNat : Int) := by
      rw [List.getD_eq_getElem?_getD, Nat.mul_one, Nat.add_zero, List.getElem?_append_right (by rw [B.len]; omega), B.len]
      simp only [Lib.strCells, List.getElem?_map, List.getElem?_eq_getElem hi2]
      rfl
     rw [this]
     exact .val _ rfl
 ·intro k k' hk hk' hne
  rcases bk k hk with rfl | rfl <;> rcases bk k' hk' with rfl | rfl
  ·exact absurd rfl hne
  ·rw [b0, b1]; exact fun e => (hg2 (vne hk')).2 e.symm
  ·rw [b0, b1]; exact (hg2 (vne hk)).2
  ·exact absurd rfl hne
 ·intro k hk
  rcases bk k hk with rfl | rfl
  ·rw [b0]; exact hH.imm _ blk0
  ·rw [b1]
   rcases (hg2 (vne hk)).1 with h | h
   ·obtain ⟨h2, h3⟩ := B.blk g h
    rw [← h3]; exact hH.imm _ h2
   ·exact fun hI => by have := hH.Ilt _ hI; omega
 ·intro k hk
  rcases bk k hk with rfl | rfl
  ·rw [b0]; exact hblt
  ·rw [b1]
   rcases (hg2 (vne hk)).1 with h | h
   ·obtain ⟨h2, h3⟩ := B.blk g h
    rw [← h3]; exact Nat.lt_of_lt_of_le (hH.lt _ h2) hw.size
   ·exact h.2
 ·intro k o hk
  rcases two_some hk with ⟨rfl, rfl⟩ | ⟨rfl, rfl⟩
  ·exact ⟨_, p0, ⟨_, rfl⟩, b0⟩
  ·exact ⟨_, p1, 1, _, _, rfl, Nat.zero_le _, fun e => absurd e (by decide)⟩
 ·refine .tup _ _ rfl (fun j hj => ?_)
  have : j = 0 ∨ j = 1 := by simp at hj; omega
  rcases this with rfl | rfl
  ·exact .one _ _ (.imm _ _ (.val _ rfl))
  ·exact .one _ _ (.imm _ _ (.val _ rfl))
 ·intro k hk
  rcases bk k hk with rfl | rfl
  ·exact .inl ⟨blk0, b0⟩
  ·rw [b1]
   rcases (hg2 (vne hk)).1 with h | h
   ·obtain ⟨h2, h3⟩ := B.blk g h
    exact .inl ⟨h2, h3.symm⟩
   ·exact .inr h.1
 ·refine hw.mono (fun x hx => ?_)
  rcases hx with rfl | hx
  ·exact ⟨pbase, blk0, rfl⟩
  ·obtain ⟨h2, h3⟩ := B.blk x hx.symm
   exact ⟨pbase + 1, h2, h3.symm⟩
end
section
variable {P : Program} {ρ : Ren}
theorem byte_of {x : Int} (h : byteB x = true) : ((UInt8.ofNat x.toNat).toNat : Int) = x := by
 simp only [byteB, Bool.and_eq_true, decide_eq_true_eq] at h
 have h1 : (UInt8.ofNat x.toNat).toNat = x.toNat := by
  simp only [UInt8.toNat_ofNat']
  omega
 rw [h1]; omega
theorem mkStr_data (l : List Int) : mkStr l = ⟨(l.map fun x => UInt8.ofNat x.toNat).toArray⟩ := by
 have h : ∀ (l : List Int) (r : ByteArray), (l.foldl (fun r n => r.push (UInt8.ofNat n.toNat)) r).data.toList = r.data.toList ++ l.map fun x => UInt8.ofNat x.toNat := by
  intro l
  induction l with
  | nil => intro r; simp
  | cons x l ih =>
   intro r
   rw [List.foldl_cons, ih]
   simp [ByteArray.push]
 have h2 := h l ByteArray.empty
 unfold mkStr
 generalize l.foldl (fun r n => r.push (UInt8.ofNat n.toNat)) ByteArray.empty = b at h2
 cases b with
 | mk d =>
  congr 1
  apply Array.ext'
  simpa using h2
theorem bldS_meets (hfix : ρ.t 5 < fixM) (hp : ∃ fn, P.funcs[ρ.f 169]? = some fn ∧ fn.body.isNone = false ∧ (fn.name == "runtime.NumGoroutine") = false) (L : Lays.n169 P ρ) (X : Builder.Extra P ρ) : Meets P (bldS (ρ.t 72) (ρ.t 5) (ρ.f 169)) := by
 intro f args os res os' h
 obtain ⟨a, n, get, l, rfl, rfl, rfl, ha, hn, hb, hall, hr⟩ := bldS_inv h
 obtain ⟨rfl, rfl⟩ := Prod.mk.inj hr
 refine ⟨hp, fun I w E vals hH hv hsz => ?_⟩
 obtain ⟨p, xs, B⟩ := bld_of hfix hH ha
 have hsz2 : vals.size = 1 := by simpa using hsz
 have v0 := hv 0
 simp only [List.getD_cons_zero] at v0
 have e0 : vals.getD 0 undef = .pointer (some ⟨E.bl pbase, 0, none⟩) := by
  generalize vals.getD 0 undef = x at v0
  cases v0 with
  | one _ _ h => cases h with
   | imm _ _ h => cases h
   | ptr => rfl
 have ev : vals = #[.pointer (some ⟨E.bl pbase, 0, none⟩)] := by
  apply Array.ext
  ·simp [hsz2]
  ·intro i h1 h2
   have : i = 0 := by omega
   subst this
   simpa [Array.getD, hsz2] using e0
 subst ev
 obtain ⟨hl1, hl2⟩ := bytesAt_is n hb
 have hx : xs = Lib.byteCells (l.map fun x => UInt8.ofNat x.toNat) := by
  apply List.ext_getElem
  ·simp [Lib.byteCells, B.len, hl1]
  ·intro i h1 h2
   have hi : i < l.length := by rw [hl1, ← B.len]; exact h1
   obtain ⟨_, g2⟩ := B.get i (by rw [← hl1]; exact hi)
   rw [hl2 i hi] at g2
   have e1 : xs.getD i undef = xs[i] := by simp [h1]
   rw [e1] at g2
   simp only [List.getD_cons_zero] at g2
   have e2 : xs[i] = .int .u8 l[i] := by
    generalize xs[i] = y at g2
    cases g2; rfl
   rw [e2]
   simp only [Lib.byteCells, List.map_map, List.getElem_map, Function.comp]
   rw [byte_of (List.all_eq_true.1 hall _ (List.getElem_mem hi))]
 have hne : (l.map fun x => UInt8.ofNat x.toNat) ≠ [] := by
  intro e
  have : (l.map fun x => UInt8.ofNat x.toNat).length = 0 := by rw [e]; rfl
  rw [List.length_map, hl1] at this
  omega
 have hat := B.at_
 rw [hx] at hat
 refine (bld_string L X (E.bl pbase) p (E.hv (pbase + 1)) _ w hat hne).mono ?_
 rintro e w' ⟨rfl, hw⟩
 have blk0 : Blk (objs0 [.tcells (ρ.t 72) [a, .osl (pbase + 1) 0 0 n], .arr (ρ.t 5) 1 0 n get]) E pbase := ⟨_, two0, fun _ _ _ _ _ e => by cases e⟩
 have same : ∀ b, I b → w'.heap[b]? = w.heap[b]? := by
  intro b hb
  refine hw.block b (hH.Ilt b hb) (fun hc => ?_)
  obtain ⟨h1, h2⟩ := B.blk b hc.symm
  exact hH.imm _ h1 (h2 ▸ hb)
 let os' : List Ob := [.tcells (ρ.t 72) [a, .osl (pbase + 1) 0 0 n], .arr (ρ.t 5) 1 1 0 fun _ => []]
 let E' : Env := ⟨E.bl, upd E.hv (pbase + 1) (.slice none 0 0)⟩
 have h1 : E'.hv (pbase + 1) = .slice none 0 0 := upd_same E.hv (pbase + 1) _
 have p0 : objs0 os' pbase = some (.tcells (ρ.t 72) [a, .osl (pbase + 1) 0 0 n]) := two0
 have p1 : objs0 os' (pbase + 1) = some (.arr (ρ.t 5) 1 1 0 fun _ => []) := two1
 have bk : ∀ k, Blk (objs0 os') E' k → k = pbase := by
  rintro k ⟨o, ho, hn⟩
  rcases two_some ho with ⟨h, _⟩ | ⟨rfl, rfl⟩
  ·exact h
  ·exact absurd h1 (hn _ _ _ _ _ rfl)
 have hla : LR (objs0 os') E' I w' a p := by
  have hla := B.la
  unfold selfP at ha
  split at ha
  ·cases hla with
   | imm _ _ hi => cases hi; exact .imm _ _ (.val _ rfl)
  ·rw [Nat.beq_eq] at ha
   subst ha
   cases hla with
   | imm _ _ hi => cases hi
   | ptr => exact .ptr (E := E') pbase 0 _ p0 rfl
  ·cases ha
 refine ⟨_, I, E', rfl, ⟨?_, ?_, ?_, ?_, fun b hb => Nat.lt_of_lt_of_le (hH.Ilt b hb) hw.size⟩, ?_, fun _ h => h, fun _ h => .inl h, ?_, ?_, ?_⟩
 ·intro k o hk
  rcases two_some hk with ⟨rfl, rfl⟩ | ⟨rfl, rfl⟩
  ·refine ⟨#[p, E.hv (pbase + 1)], ?_, rfl, ?_⟩
   ·show w'.heap[E.bl pbase]? = _
    rw [hw.block _ (hH.lt _ blk0) (fun hc => B.at_.ne hc.symm)]
    exact B.at_.blk
   ·intro j hj
    have : j = 0 ∨ j = 1 := by simp at hj; omega
    rcases this with rfl | rfl
    ·exact hla
    ·show LR (objs0 os') E' I w' (.osl (pbase + 1) 0 0 n) (E.hv (pbase + 1))
     rcases B.hv with ⟨e1, e2⟩ | ⟨cap, e1⟩
     ·omega
     ·rw [e1]
      exact .osl _ _ _ _ _ _ _ _ _ _ cap p1 (Nat.zero_le _) (fun e => absurd e (by decide))
  ·exact ⟨[], by rw [h1]; exact rowW_of (World.ownsRow_nil w' 0 _ 1), .inl h1, by omega, fun i hi => by omega⟩
 ·intro k k' hk hk' hne
  exact absurd ((bk k hk).trans (bk k' hk').symm) hne
 ·intro k hk
  rw [bk k hk]; exact hH.imm _ blk0
 ·intro k hk
  rw [bk k hk]; exact Nat.lt_of_lt_of_le (hH.lt _ blk0) hw.size
 ·intro k o hk
  rcases two_some hk with ⟨rfl, rfl⟩ | ⟨rfl, rfl⟩
  ·exact ⟨_, p0, ⟨_, rfl⟩, rfl⟩
  ·exact ⟨_, p1, 1, _, _, rfl, Nat.zero_le _, fun e => absurd e (by decide)⟩
 ·rw [mkStr_data]
  exact .one _ _ (.imm _ _ (.val _ rfl))
 ·intro k hk
  rw [bk k hk]; exact .inl ⟨blk0, rfl⟩
 ·refine hw.mono (fun x hx => ?_)
  obtain ⟨h2, h3⟩ := B.blk x hx.symm
  exact ⟨pbase + 1, h2, h3.symm⟩
theorem bld_meets {T e fW fS : Nat} (hW : Meets P (bldW T e fW)) (hS : Meets P (bldS T e fS)) : Meets P (bldO T e fW fS) := hW.or hS
end
section
variable {T e fW fS : Nat}
def bldStr (l : List Int) : Option ByteArray := if (l.all byteB && Nat.blt 0 l.length) = true then some (mkStr l) else none
def bldAdd (l : List Int) (s : ByteArray) : Option (List Int) := if Nat.ble (l.length + s.size) 140737488355328 = true then some (l ++ bytesL s) else none
theorem bldO_add {a : Lf} (ha : selfP a = true) {l : List Int} {s : ByteArray} : ∀ r, bldAdd l s = some r → bldO T e fW fS fW [.one (.ptr 1000000 0), .one (ls s)] [.tcells T [a, .osl 1000001 0 0 l.length], .arr e (codI .u8).sz 0 l.length (getOf (codI .u8) l)] =
  some (.tup [.one (li .i64 s.size), .one (.val .nilIface)], [.tcells T [.ptr 1000000 0, .osl 1000001 1 0 r.length], .arr e (codI .u8).sz 1 r.length (getOf (codI .u8) r)]) := by
 intro r hr
 unfold bldAdd at hr
 split at hr
 ·rename_i hl
  cases hr
  have hlen : (l ++ bytesL s).length = l.length + s.size := by rw [List.length_append, bytesL_len]
  have hg : (fun i => if i < l.length then getOf (codI .u8) l i else ((bytesL s).map fun x => [Lf.val (.int .u8 x)]).getD (i - l.length) []) = getOf (codI .u8) (l ++ bytesL s) := getOf_app (c := codI .u8) l (bytesL s)
  have hW : bldW T e fW fW [.one (.ptr 1000000 0), .one (ls s)] [.tcells T [a, .osl 1000001 0 0 l.length], .arr e (codI .u8).sz 0 l.length (getOf (codI .u8) l)] = some (.tup [.one (li .i64 s.size), .one (.val .nilIface)], [.tcells T [.ptr 1000000 0, .osl 1000001 1 0 (l ++ bytesL s).length], .arr e (codI .u8).sz 1 (l ++ bytesL s).length (getOf (codI .u8) (l ++ bytesL s))]) := by
   simp only [bldW, ls, ha]
   rw [if_pos (by simp [pbase, codI, hl] <;> simpa using hl), hg, hlen]
   rfl
  simp only [bldO, hW]
 ·cases hr
theorem bldO_str {a : Lf} (ha : selfP a = true) {l : List Int} : ∀ r, bldStr l = some r → bldO T e fW fS fS [.one (.ptr 1000000 0)] [.tcells T [a, .osl 1000001 0 0 l.length], .arr e (codI .u8).sz 0 l.length (getOf (codI .u8) l)] =
  some (.one (ls r), [.tcells T [a, .osl 1000001 0 0 l.length], .arr e (codI .u8).sz 1 ([] : List Int).length (getOf (codI .u8) ([] : List Int))]) := by
 intro r hr
 unfold bldStr at hr
 split at hr
 ·rename_i hl
  cases hr
  simp only [Bool.and_eq_true] at hl
  have h1 := bytesAt_getOf l
  have h2 : getOf (codI .u8) ([] : List Int) = fun _ => [] := by funext i; simp [getOf]
  have hW : bldW T e fW fS [.one (.ptr 1000000 0)] [.tcells T [a, .osl 1000001 0 0 l.length], .arr e (codI .u8).sz 0 l.length (getOf (codI .u8) l)] = none := rfl
  have hS : bldS T e fS fS [.one (.ptr 1000000 0)] [.tcells T [a, .osl 1000001 0 0 l.length], .arr e (codI .u8).sz 0 l.length (getOf (codI .u8) l)] = some (.one (ls (mkStr l)), [.tcells T [a, .osl 1000001 0 0 l.length], .arr e (codI .u8).sz 1 ([] : List Int).length (getOf (codI .u8) ([] : List Int))]) := by
   simp only [bldS, ha, h1]
   rw [if_pos (by simp [pbase, codI] <;> simpa using hl.2), if_pos hl.1, h2]
   rfl
  simp only [bldO, hW, hS]
 ·cases hr
end
end Go.Rx
