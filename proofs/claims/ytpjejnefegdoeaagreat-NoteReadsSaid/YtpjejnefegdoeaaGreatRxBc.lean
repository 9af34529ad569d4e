/- No condition. -/
import Derived.Test.YtpjejnefegdoeaaGreatRxBb
set_option linter.unusedVariables false
namespace Go.Rx
open Go Go.RowKit
structure Inserted (T SZ : Nat) (w w' : World) (v v' : Value) (n i : Nat) (xs vs : List Value) : Prop where
 own : w'.ownsRow 0 T SZ v' (n + 1) (xs.take (i * SZ) ++ vs ++ xs.drop (i * SZ))
 row : ∃ g' cap', v' = .slice (some ⟨g', 0, none⟩) (n + 1) cap' ∧ (v.ownBlock = some g' ∨ (w.heap.size ≤ g' ∧ g' < w'.heap.size))
 st : Wst (fun k => some k = v.ownBlock) w w'
structure Deleted (T SZ : Nat) (w w' : World) (v v' : Value) (n i j : Nat) (xs : List Value) : Prop where
 own : w'.ownsRow 0 T SZ v' (n - (j - i)) (xs.take (i * SZ) ++ xs.drop (j * SZ))
 row : ∃ g cap, v = .slice (some ⟨g, 0, none⟩) n cap ∧ v' = .slice (some ⟨g, 0, none⟩) (n - (j - i)) cap
 st : Wst (fun k => some k = v.ownBlock) w w'
structure Cloned (T SZ : Nat) (w w' : World) (v' : Value) (n : Nat) (xs : List Value) : Prop where
 own : w'.ownsRow 0 T SZ v' n xs
 row : v' = .slice none 0 0 ∨ ∃ g cap, v' = .slice (some ⟨g, 0, none⟩) n cap ∧ w.heap.size ≤ g ∧ g < w'.heap.size
 st : Wst (fun _ => False) w w'
theorem Heap.change {objs : Nat → Option Ob} {E : Env} {I : Nat → Prop} {w : World} (h : Heap objs E I w) {w' : World} (k : Nat) (o o' : Ob) (hk : objs k = some o) (hw : Wst (fun b => Blk objs E k ∧ b = E.bl k) w w') (b : Nat) (hv : Value)
  (hb : (∀ el sz g n get, o' = .arr el sz g n get → hv ≠ .slice none 0 0) → (Blk objs E k ∧ b = E.bl k) ∨ (w.heap.size ≤ b ∧ b < w'.heap.size))
  (hE : ExtO E ⟨upd E.bl k b, upd E.hv k hv⟩ k o o')
  (ho : Move objs E I w (upd objs k (some o')) ⟨upd E.bl k b, upd E.hv k hv⟩ I w' → ObjR (upd objs k (some o')) ⟨upd E.bl k b, upd E.hv k hv⟩ I w' k o') :
  Heap (upd objs k (some o')) ⟨upd E.bl k b, upd E.hv k hv⟩ I w' ∧ Move objs E I w (upd objs k (some o')) ⟨upd E.bl k b, upd E.hv k hv⟩ I w' ∧
   (∀ j, Blk (upd objs k (some o')) ⟨upd E.bl k b, upd E.hv k hv⟩ j → (Blk objs E j ∧ upd E.bl k b j = E.bl j) ∨ w.heap.size ≤ upd E.bl k b j) ∧ Wst (In0 objs E) w w' := by
 have m : Move objs E I w (upd objs k (some o')) ⟨upd E.bl k b, upd E.hv k hv⟩ I w' := by
  refine ⟨?_, fun _ h => h, fun b hb => hw.block b (h.Ilt b hb) (fun e => h.imm k e.1 (e.2 ▸ hb))⟩
  intro j oj hj
  by_cases hjk : j = k
  ·subst hjk
   rw [hk] at hj; injection hj with hj; subst hj
   exact ⟨o', upd_same _ _ _, hE⟩
  ·exact ⟨oj, by rw [upd_ne _ _ hjk]; exact hj, ExtO.of_eq (upd_ne _ _ hjk) (upd_ne _ _ hjk) oj⟩
 have hbk : Blk (upd objs k (some o')) ⟨upd E.bl k b, upd E.hv k hv⟩ k → (Blk objs E k ∧ b = E.bl k) ∨ (w.heap.size ≤ b ∧ b < w'.heap.size) := by
  rintro ⟨o1, h1, h2⟩
  rw [upd_same] at h1; injection h1 with h1; subst h1
  refine hb (fun el sz g n get e => ?_)
  have := h2 el sz g n get e
  simpa [upd_same] using this
 have hsz := hw.size
 refine ⟨⟨?_, ?_, ?_, ?_, fun b hb => Nat.lt_of_lt_of_le (h.Ilt b hb) hw.size⟩, m, fun j hj => ?_, hw.mono (fun x hx => ⟨k, hx.1, hx.2⟩)⟩
 ·intro j oj hj
  by_cases hjk : j = k
  ·subst hjk; rw [upd_same] at hj; injection hj with hj; subst hj; exact ho m
  ·rw [upd_ne _ _ hjk] at hj
   exact m.obj (upd_ne _ _ hjk) (upd_ne _ _ hjk) (fun hh => hw.block _ (h.lt j ⟨oj, hj, hh⟩) (fun e => h.inj j k ⟨oj, hj, hh⟩ e.1 hjk e.2)) (h.objs j oj hj)
 ·intro j j' hj hj' hne'
  by_cases h1 : j = k
  ·subst h1
   have h2 : j' ≠ j := Ne.symm hne'
   show upd E.bl j b j ≠ upd E.bl j b j'
   rw [upd_same, upd_ne _ _ h2]
   have h3 := h.lt j' (hj'.of_upd h2)
   rcases hbk hj with ⟨h4, hb⟩ | ⟨hb, _⟩
   ·rw [hb]; exact h.inj j j' h4 (hj'.of_upd h2) hne'
   ·omega
  ·by_cases h2 : j' = k
   ·subst h2
    show upd E.bl j' b j ≠ upd E.bl j' b j'
    rw [upd_same, upd_ne _ _ h1]
    have h3 := h.lt j (hj.of_upd h1)
    rcases hbk hj' with ⟨h4, hb⟩ | ⟨hb, _⟩
    ·rw [hb]; exact h.inj j j' (hj.of_upd h1) h4 hne'
    ·omega
   ·show upd E.bl k b j ≠ upd E.bl k b j'
    rw [upd_ne _ _ h1, upd_ne _ _ h2]; exact h.inj j j' (hj.of_upd h1) (hj'.of_upd h2) hne'
 ·intro j hj
  by_cases hjk : j = k
  ·subst hjk; show ¬ I (upd E.bl j b j); rw [upd_same]
   rcases hbk hj with ⟨h4, hb⟩ | ⟨hb, _⟩
   ·rw [hb]; exact h.imm j h4
   ·exact fun hI => by have := h.Ilt b hI; omega
  ·show ¬ I (upd E.bl k b j); rw [upd_ne _ _ hjk]; exact h.imm j (hj.of_upd hjk)
 ·intro j hj
  by_cases hjk : j = k
  ·subst hjk; show upd E.bl j b j < _; rw [upd_same]
   rcases hbk hj with ⟨h4, hb⟩ | ⟨hb, _⟩
   ·rw [hb]; have := h.lt j h4; omega
   ·omega
  ·show upd E.bl k b j < _; rw [upd_ne _ _ hjk]; have := h.lt j (hj.of_upd hjk); omega
 ·by_cases hjk : j = k
  ·subst hjk; rw [upd_same]
   rcases hbk hj with ⟨h4, hb⟩ | ⟨hb, _⟩
   ·exact .inl ⟨h4, hb⟩
   ·exact .inr hb
  ·rw [upd_ne _ _ hjk]; exact .inl ⟨hj.of_upd hjk, rfl⟩
section
variable {P : Program} {T SZ : Nat}
end
end Go.Rx
