/- No condition. -/
import Derived.Test.YthdabpmcojmhhaaClientPlaysSc
import Derived.Lib.SliceRun
namespace Go.Proofs.Ythdabpmcojmhhaa
open Go Go.Rx Go.RowKit
set_option linter.unusedVariables false
theorem ins1_info0 : (Try.prog.info? 58).map (fun i => (i.zero.map (·.cells.size), i.size, i.bytes)) = some (some 25, 25, 264) := by kernel_rfl
theorem ins1_info : ∃ i0 z, Try.prog.info? 58 = some i0 ∧ i0.zero = some z ∧ i0.size = 25 ∧ i0.bytes = 264 ∧ z.cells.size = 25 := by
 obtain ⟨i0, hi, h⟩ := Option.map_eq_some_iff.1 ins1_info0
 simp only [Prod.mk.injEq] at h
 obtain ⟨h1, h2, h3⟩ := h
 obtain ⟨z, hz, hs⟩ := Option.map_eq_some_iff.1 h1
 exact ⟨i0, z, hi, hz, h2, h3, hs⟩
set_option maxHeartbeats 2000000 in
set_option maxRecDepth 100000 in
theorem clone1_row (ad : Addr) (n c : Nat) (xs : List Value) (w : World) (hl : xs.length = n * 25) (hn : n ≤ 1000000) (hc : ∀ j u, xs[j]? = some u → w.cell? (ad.add j) = some u) (h1 : ∀ u ∈ xs, u.oneCell' = true) :
  Calls Try.prog 45 #[.slice (some ad) n c] w fun e w' => ∃ v', e = .returned v' ∧ Cloned 58 25 w w' v' n xs := by
 obtain ⟨i0, z, hi, hz0, hz1, hz2, hzs⟩ := ins1_info
 have q22 : ∀ (w : World) (a : Option Addr) (n c n' c' : Nat), (binOp .eql 30 (.slice a n c) (.slice none n' c')).run Try.prog w = .ok (.bool a.isNone) w := fun w a n c n' c' => Lib.run_eql_slice_nil w _ _ a n c n' c' Try.underlying30
 have A : Hid (∀ j u, xs[j]? = some u → w.cell? (ad.add j) = some u) := hc
 clear hc
 go_enter Try.func45, Try.ntmps45
 go_wp2_with (at_builtin; refine wpList_append_own _ rfl _ _ 30 rfl w.heap.size 58 i0 z 25 264 Try.underlying30 hi hz0 hz1 hz2 hzs (by decide) _ _ _ rfl (World.ownsRow_made w #[] 0 (yai _) (ybs _) (by simp)) ad n c xs rfl ?qc1 ?qc2 ?qc3 ?qc4 ?qc5 ?qc6 ?_)
 case qc1 => exact hl
 case qc2 =>
  intro j u hj
  exact Lib.cell?_alloc_some _ (A.out j u hj)
 case qc3 => exact h1
 case qc4 => simp only [maxLen]; omega
 case qc5 => omega
 case qc6 => simp
 intro v' w1 hown hgrow hnil
 have hb : Below w.heap.size w w1 := ((Below.refl _ w).alloc (yai _) _).grown hgrow (by simp) (by intro k hk; simp [Value.ownBlock] at hk; omega)
 go_wp2
 go_ret
 refine ⟨v', rfl, ?_, ?_, wst_below hb⟩
 ·have := hown
  exact ⟨this.1, by
   rcases this.2 with h | ⟨g, cap, cur, h1, h2, h3⟩
   ·exact .inl h
   ·exact .inr ⟨g, cap, cur, h1, ybs _, h3⟩⟩
 ·rcases hown.2 with h | ⟨g, cap, cur, h1, h2, h3, _⟩
  ·exact .inl h.1
  ·exact .inr ⟨g, cap, h1, h2, heap_lt h3⟩
set_option maxHeartbeats 1000000 in
theorem clone1_nil (n c : Nat) (w : World) : Calls Try.prog 45 #[.slice none n c] w fun e w' => e = .returned (.slice none 0 0) ∧ w' = w := by
 have q22 : ∀ (w : World) (a : Option Addr) (n c n' c' : Nat), (binOp .eql 30 (.slice a n c) (.slice none n' c')).run Try.prog w = .ok (.bool a.isNone) w := fun w a n c n' c' => Lib.run_eql_slice_nil w _ _ a n c n' c' Try.underlying30
 go_enter Try.func45, Try.ntmps45
 go_wp2
 go_ret
 exact ⟨rfl, rfl⟩
theorem clone1_ok : CloneWalk Try.prog 45 58 25 := by
 intro base n cap xs w hl hnb hc h1 hn
 cases base with
 | none =>
  have h0 := hnb rfl
  subst h0
  have hx : xs = [] := yau (by simpa using hl)
  subst hx
  refine (clone1_nil 0 cap w).mono ?_
  rintro e w' ⟨rfl, rfl⟩
  exact ⟨_, rfl, World.ownsRow_nil _ 0 58 25, .inl rfl, Wst.refl _ _⟩
 | some ad => exact clone1_row ad n cap xs w hl hn (hc ad rfl) h1
end Go.Proofs.Ythdabpmcojmhhaa
