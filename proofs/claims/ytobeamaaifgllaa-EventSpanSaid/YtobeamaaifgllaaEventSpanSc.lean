/- No condition. -/
import Derived.Test.YtobeamaaifgllaaEventSpanSi
import Derived.Lib.SliceRun
namespace Go.Proofs.Ytobeamaaifgllaa
open Go Go.Rx Go.RowKit
set_option linter.unusedVariables false
theorem wst_below {w w' : World} (h : Below w.heap.size w w') : Wst (fun _ => False) w w' := ⟨h.os, h.tape, h.output, h.size, fun k hk _ => h.block k hk⟩
set_option maxHeartbeats 2000000 in
set_option maxRecDepth 100000 in
theorem clone_row (ad : Addr) (n c : Nat) (xs : List Value) (w : World) (hl : xs.length = n * 11) (hn : n ≤ 1000000) (hc : ∀ j u, xs[j]? = some u → w.cell? (ad.add j) = some u) (h1 : ∀ u ∈ xs, u.oneCell' = true) :
  Calls Try.prog 78 #[.slice (some ad) n c] w fun e w' => ∃ v', e = .returned v' ∧ Cloned 28 11 w w' v' n xs := by
 obtain ⟨i0, z, hi, hz0, hz1, hz2, hzs⟩ := ins_info
 have q22 : ∀ (w : World) (a : Option Addr) (n c n' c' : Nat), (binOp .eql 29 (.slice a n c) (.slice none n' c')).run Try.prog w = .ok (.bool a.isNone) w := fun w a n c n' c' => Lib.run_eql_slice_nil w _ _ a n c n' c' Try.underlying29
 have A : Hid (∀ j u, xs[j]? = some u → w.cell? (ad.add j) = some u) := hc
 clear hc
 go_enter Try.func78, Try.ntmps78
 go_wp2_with (at_builtin; refine wpList_append_own _ rfl _ _ 29 rfl w.heap.size 28 i0 z 11 120 Try.underlying29 hi hz0 hz1 hz2 hzs (by decide) _ _ _ rfl (World.ownsRow_made w #[] 0 (Nat.le_refl _) (Nat.zero_le _) (by simp)) ad n c xs rfl ?qc1 ?qc2 ?qc3 ?qc4 ?qc5 ?qc6 ?_)
 case qc1 => exact hl
 case qc2 =>
  intro j u hj
  exact Lib.cell?_alloc_some _ (A.out j u hj)
 case qc3 => exact h1
 case qc4 => simp only [maxLen]; omega
 case qc5 => omega
 case qc6 => simp
 intro v' w1 hown hgrow hnil
 have hb : Below w.heap.size w w1 := ((Below.refl _ w).alloc (Nat.le_refl _) _).grown hgrow (by simp) (by intro k hk; simp [Value.ownBlock] at hk; omega)
 go_wp2
 go_ret
 refine ⟨v', rfl, ?_, ?_, wst_below hb⟩
 ·have := hown
  exact ⟨this.1, by
   rcases this.2 with h | ⟨g, cap, cur, h1, h2, h3⟩
   ·exact .inl h
   ·exact .inr ⟨g, cap, cur, h1, Nat.zero_le _, h3⟩⟩
 ·rcases hown.2 with h | ⟨g, cap, cur, h1, h2, h3, _⟩
  ·exact .inl h.1
  ·exact .inr ⟨g, cap, h1, h2, heap_lt h3⟩
set_option maxHeartbeats 1000000 in
theorem clone_nil (n c : Nat) (w : World) : Calls Try.prog 78 #[.slice none n c] w fun e w' => e = .returned (.slice none 0 0) ∧ w' = w := by
 have q22 : ∀ (w : World) (a : Option Addr) (n c n' c' : Nat), (binOp .eql 29 (.slice a n c) (.slice none n' c')).run Try.prog w = .ok (.bool a.isNone) w := fun w a n c n' c' => Lib.run_eql_slice_nil w _ _ a n c n' c' Try.underlying29
 go_enter Try.func78, Try.ntmps78
 go_wp2
 go_ret
 exact ⟨rfl, rfl⟩
theorem clone_ok : CloneWalk Try.prog 78 28 11 := by
 intro base n cap xs w hl hnb hc h1 hn
 cases base with
 | none =>
  have h0 := hnb rfl
  subst h0
  have hx : xs = [] := List.eq_nil_of_length_eq_zero (by simpa using hl)
  subst hx
  refine (clone_nil 0 cap w).mono ?_
  rintro e w' ⟨rfl, rfl⟩
  exact ⟨_, rfl, World.ownsRow_nil _ 0 28 11, .inl rfl, Wst.refl _ _⟩
 | some ad => exact clone_row ad n cap xs w hl hn (hc ad rfl) h1
end Go.Proofs.Ytobeamaaifgllaa
