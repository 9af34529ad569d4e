/-
  WatchTurns: what the functions compute answers as the statement says, in plain Lean. No condition.
-/
import Derived.Test.YtajfdeeepklfoaaWatchTurnsWa
import Derived.Test.YtajfdeeepklfoaaWatchTurnsP1
namespace Go.Proofs.Ytajfdeeepklfoaa
open Go Go.Rx
set_option maxRecDepth 100000
set_option linter.unusedSimpArgs false
set_option linter.unnecessarySimpa false
set_option linter.unusedVariables false

abbrev zF : A4 Field := A4.mk (Field.mk 0 ByteArray.empty) (Field.mk 0 ByteArray.empty) (Field.mk 0 ByteArray.empty) (Field.mk 0 ByteArray.empty)
abbrev wc (K k s : Int) (r : Rect) : Command := Command.mk K 0 0 0 (Point.mk 0 0) zF (Field.mk 0 ByteArray.empty) k s r

theorem isF_z : isF (Field.mk 0 ByteArray.empty) = true := by decide
theorem coreC_wc {K k s : Int} {r : Rect} (hK : K = 6 ∨ K = 7 ∨ (K = 8 ∧ r = Rect.mk 0 0 0 0)) : coreC (wc K k s r) = wc K k s r := by
  rcases hK with rfl | rfl | ⟨rfl, rfl⟩ <;> rfl
def nearR (r : Rect) : Prop := [r.X0, r.Y0, r.X1, r.Y1].all near = true
theorem isC_wc {K k s : Int} {r : Rect} (hK : K = 6 ∨ K = 7 ∨ (K = 8 ∧ r = Rect.mk 0 0 0 0)) (hk : 0 ≤ k ∧ k < 4) (hs : 0 ≤ s ∧ s ≤ 1000000) (hr : nearR r) : isC (wc K k s r) = true := by
  have h1 : (1 : Int) ≤ K ∧ K ≤ 8 := by omega
  unfold nearR at hr
  simp only [List.all_cons, List.all_nil, Bool.and_true, Bool.and_eq_true] at hr
  have z : near 0 = true := by decide
  unfold isC boundsC
  rw [coreC_wc hK, Command.eqb_refl]
  simp [isF_z, h1, hk, hs, hr, z]
theorem nearR_z : nearR (Rect.mk 0 0 0 0) := by unfold nearR; decide
theorem watches_wc {K k s : Int} {r : Rect} (hK : K = 6 ∨ K = 7 ∨ (K = 8 ∧ r = Rect.mk 0 0 0 0)) : watchesC (wc K k s r) = true := by
  unfold watchesC
  have : (6 : Int) ≤ K ∧ K ≤ 8 := by omega
  simp [this]
theorem join_new {l : A4 Watch} {k s t : Int} {r : Rect} (hk : 0 ≤ k ∧ k < 4) (hs : 0 ≤ s ∧ s ≤ 1000000) (hr : nearR r) (hw : (getW l k).Session < s) : doW l (wc 6 k s r) t = (0, setW l k (Watch.mk true s t (clipR r))) := by
  unfold doW
  rw [isC_wc (.inl rfl) hk hs hr, watches_wc (.inl rfl)]
  have : ¬ s ≤ (getW l k).Session := by omega
  simp [this]
theorem join_old {l : A4 Watch} {k s t : Int} {r : Rect} (hk : 0 ≤ k ∧ k < 4) (hs : 0 ≤ s ∧ s ≤ 1000000) (hr : nearR r) (hw : s ≤ (getW l k).Session) : doW l (wc 6 k s r) t = (20, l) := by
  unfold doW
  rw [isC_wc (.inl rfl) hk hs hr, watches_wc (.inl rfl)]
  simp [hw]
theorem turn_on {l : A4 Watch} {k s t : Int} {r : Rect} (hk : 0 ≤ k ∧ k < 4) (hs : 0 ≤ s ∧ s ≤ 1000000) (hr : nearR r) (ho : (getW l k).On = true) (hw : (getW l k).Session = s) : doW l (wc 7 k s r) t = (0, setW l k (Watch.mk true s (getW l k).Start (clipR r))) := by
  unfold doW
  rw [isC_wc (.inr (.inl rfl)) hk hs hr, watches_wc (.inr (.inl rfl))]
  simp [ho, hw]
theorem else_old {K : Int} {l : A4 Watch} {k s t : Int} {r : Rect} (hK : K = 7 ∨ (K = 8 ∧ r = Rect.mk 0 0 0 0)) (hk : 0 ≤ k ∧ k < 4) (hs : 0 ≤ s ∧ s ≤ 1000000) (hr : nearR r) (hw : s ≠ (getW l k).Session) : doW l (wc K k s r) t = (20, l) := by
  unfold doW
  rw [isC_wc (.inr hK) hk hs hr, watches_wc (.inr hK)]
  have h6 : (K == 6) = false := by rcases hK with rfl | ⟨rfl, _⟩ <;> rfl
  cases ho : (getW l k).On <;> simp [h6, ho, hw]
theorem quit_on {l : A4 Watch} {k s t : Int} (hk : 0 ≤ k ∧ k < 4) (hs : 0 ≤ s ∧ s ≤ 1000000) (ho : (getW l k).On = true) (hw : (getW l k).Session = s) : doW l (wc 8 k s (Rect.mk 0 0 0 0)) t = (0, setW l k (Watch.mk false s (getW l k).Start (Rect.mk 0 0 0 0))) := by
  unfold doW
  rw [isC_wc (.inr (.inr ⟨rfl, rfl⟩)) hk hs nearR_z, watches_wc (.inr (.inr ⟨rfl, rfl⟩))]
  simp [ho, hw]

theorem imin_le {a b c : Int} (h : ¬ imin a b < c) : ¬ a < c ∧ ¬ b < c := by
  unfold imin at h; split at h <;> omega
theorem imax_ge {a b c : Int} (h : ¬ c < imax a b) : ¬ c < a ∧ ¬ c < b := by
  unfold imax at h; split at h <;> omega

theorem watchTurns_pure (a0 a1 a2 : Int) (a3 a4 : Rect) (w0 : (Lit.int .u8 a0).wf = true) (w1 : (Lit.int .u8 a1).wf = true) (w2 : (Lit.int .u8 a2).wf = true) (_ : Rect.wf a3) (_ : Rect.wf a4) : ∃ n, F13 n a0 a1 a2 a3 a4 = some true := by
  refine ⟨0, ?_⟩
  have h0 : 0 ≤ a0 ∧ a0 ≤ 255 := by simpa [Lit.wf, IntKind.min, IntKind.max, IntKind.bits, IntKind.signed] using w0
  have h1 : 0 ≤ a1 ∧ a1 ≤ 255 := by simpa [Lit.wf, IntKind.min, IntKind.max, IntKind.bits, IntKind.signed] using w1
  have h2 : 0 ≤ a2 ∧ a2 ≤ 255 := by simpa [Lit.wf, IntKind.min, IntKind.max, IntKind.bits, IntKind.signed] using w2
  have ek : 0 ≤ Int.tmod a0 4 ∧ Int.tmod a0 4 < 4 := by
    rw [Int.tmod_eq_emod_of_nonneg h0.1]; omega
  obtain ⟨k, hk⟩ : ∃ k, k = Int.tmod a0 4 := ⟨_, rfl⟩
  rw [← hk] at ek
  have e1 : IntKind.wrap .i64 (Int.tmod a0 4) = k := by rw [← hk]; exact d64 (by omega) (by omega)
  have e2 : IntKind.wrap .i64 a1 = a1 := d64 (by omega) (by omega)
  have e3 : IntKind.wrap .i64 a2 = a2 := d64 (by omega) (by omega)
  have e4 : IntKind.wrap .i64 (a1 + 1) = a1 + 1 := d64 (by omega) (by omega)
  have e5 : IntKind.wrap .i64 (a1 + 1 + a2) = a1 + 1 + a2 := d64 (by omega) (by omega)
  have e6 : IntKind.wrap .i64 (a1 + 1 + a2 + 1) = a1 + 1 + a2 + 1 := d64 (by omega) (by omega)
  unfold F13
  simp only [Option.bind_some, Bool.not_true, Bool.false_eq_true, if_false, e1, e2, e3, e4, e5, e6]
  by_cases g1 : imin (imin (imin a3.X0 a3.Y0) a4.X0) a4.Y0 < (-1000)
  · rw [if_pos (by simpa using g1)]
  rw [if_neg (by simpa using g1)]
  by_cases g2 : (1000 : Int) < imax (imax (imax a3.X0 a3.Y0) a4.X0) a4.Y0
  · rw [if_pos (by simpa using g2)]
  rw [if_neg (by simpa using g2)]
  by_cases g3 : imin (imin (imin a3.X1 a3.Y1) a4.X1) a4.Y1 < (-1000)
  · rw [if_pos (by simpa using g3)]
  rw [if_neg (by simpa using g3)]
  by_cases g4 : (1000 : Int) < imax (imax (imax a3.X1 a3.Y1) a4.X1) a4.Y1
  · rw [if_pos (by simpa using g4)]
  rw [if_neg (by simpa using g4)]
  obtain ⟨g1, b1⟩ := imin_le g1
  obtain ⟨g1, b2⟩ := imin_le g1
  obtain ⟨b3, b4⟩ := imin_le g1
  obtain ⟨g2, c1⟩ := imax_ge g2
  obtain ⟨g2, c2⟩ := imax_ge g2
  obtain ⟨c3, c4⟩ := imax_ge g2
  obtain ⟨g3, b5⟩ := imin_le g3
  obtain ⟨g3, b6⟩ := imin_le g3
  obtain ⟨b7, b8⟩ := imin_le g3
  obtain ⟨g4, c5⟩ := imax_ge g4
  obtain ⟨g4, c6⟩ := imax_ge g4
  obtain ⟨c7, c8⟩ := imax_ge g4
  have n3 : nearR a3 := by unfold nearR near; simp; omega
  have n4 : nearR a4 := by unfold nearR near; simp; omega
  have hA : 0 ≤ a1 + 1 ∧ a1 + 1 ≤ 1000000 := by omega
  have hB : 0 ≤ a1 + 1 + a2 + 1 ∧ a1 + 1 + a2 + 1 ≤ 1000000 := by omega
  have hnew : F36 0 = some ⟨⟨zeroW, zeroW, zeroW, zeroW⟩⟩ := rfl
  have hz : getW ⟨zeroW, zeroW, zeroW, zeroW⟩ k = zeroW := by unfold getW; simp only [ite_self]
  simp only [hnew, Option.bind_some, do_eq, of_eq, clip_eq]
  rw [join_new (t := 3) ek hA n3 (by rw [hz]; show (0 : Int) < a1 + 1; omega)]
  simp only
  generalize hl1 : setW ⟨zeroW, zeroW, zeroW, zeroW⟩ k (Watch.mk true (a1 + 1) 3 (clipR a3)) = l1
  have q1 : getW l1 k = Watch.mk true (a1 + 1) 3 (clipR a3) := by rw [← hl1]; exact get_set _ _ _
  rw [turn_on (t := 4) ek hA n4 (by rw [q1]) (by rw [q1])]
  simp only [q1]
  generalize hl2 : setW l1 k (Watch.mk true (a1 + 1) 3 (clipR a4)) = l2
  have q2 : getW l2 k = Watch.mk true (a1 + 1) 3 (clipR a4) := by rw [← hl2]; exact get_set _ _ _
  rw [join_new (t := 9) ek hB n3 (by rw [q2]; show a1 + 1 < a1 + 1 + a2 + 1; omega)]
  simp only
  generalize hl3 : setW l2 k (Watch.mk true (a1 + 1 + a2 + 1) 9 (clipR a3)) = l3
  have q3 : getW l3 k = Watch.mk true (a1 + 1 + a2 + 1) 9 (clipR a3) := by rw [← hl3]; exact get_set _ _ _
  rw [else_old (K := 7) (t := 10) (.inl rfl) ek hA n4 (by rw [q3]; show a1 + 1 ≠ a1 + 1 + a2 + 1; omega)]
  simp only
  rw [else_old (K := 8) (t := 10) (.inr ⟨rfl, rfl⟩) ek hA nearR_z (by rw [q3]; show a1 + 1 ≠ a1 + 1 + a2 + 1; omega)]
  simp only
  rw [quit_on (t := 11) ek hB (by rw [q3]) (by rw [q3])]
  simp only [q3]
  generalize hl4 : setW l3 k (Watch.mk false (a1 + 1 + a2 + 1) 9 (Rect.mk 0 0 0 0)) = l4
  have q4 : getW l4 k = Watch.mk false (a1 + 1 + a2 + 1) 9 (Rect.mk 0 0 0 0) := by rw [← hl4]; exact get_set _ _ _
  rw [join_old (t := 12) ek hB n3 (by rw [q4]; show _ ≤ a1 + 1 + a2 + 1; omega)]
  simp only [ofW_in ek, q2, q3, q4, Watch.eqb_refl]
  rfl
end Go.Proofs.Ytajfdeeepklfoaa
