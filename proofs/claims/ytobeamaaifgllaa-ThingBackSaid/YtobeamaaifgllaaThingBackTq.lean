/-
  What was written is too short where it is cut off. No condition.
-/
import Derived.Test.YtobeamaaifgllaaThingBackTh
import Derived.Test.YtobeamaaifgllaaThingBackTj
import Derived.Test.YtobeamaaifgllaaThingBackP1
namespace Go.Proofs.Ytobeamaaifgllaa
open Go Go.Rx
set_option maxRecDepth 100000
set_option linter.unusedSimpArgs false
set_option linter.unnecessarySimpa false
set_option linter.unusedVariables false

/-- Some of its beginning, not all of it. -/
def Cut (Q X : ByteArray) : Prop := ∃ R : ByteArray, Q ++ R = X ∧ 1 ≤ R.size
theorem ba_data (a : ByteArray) : a.data.toList.length = a.size := by rw [Array.length_toList]; rfl
theorem ba_of {a b : ByteArray} (h : a.data.toList = b.data.toList) : a = b := ba_ext (Array.ext' h)
theorem ba_list (a b : ByteArray) : (a ++ b).data.toList = a.data.toList ++ b.data.toList := by rw [ByteArray.data_append, Array.toList_append]
theorem mkB (l : List UInt8) : (ByteArray.mk l.toArray).data.toList = l := rfl
theorem Cut.split {Q A B : ByteArray} (h : Cut Q (A ++ B)) (hB : 1 ≤ B.size) : Cut Q A ∨ ∃ Q', Q = A ++ Q' ∧ Cut Q' B := by
  obtain ⟨R, e, hR⟩ := h
  have el : Q.data.toList ++ R.data.toList = A.data.toList ++ B.data.toList := by rw [← ba_list, ← ba_list, e]
  rcases List.append_eq_append_iff.1 el with ⟨xs, h1, h2⟩ | ⟨cs, h1, h2⟩
  · cases xs with
    | nil =>
      refine .inr ⟨ByteArray.empty, ?_, B, ba_nil B, hB⟩
      rw [ba_nil_r]
      rw [List.append_nil] at h1
      exact ba_of h1.symm
    | cons x xs =>
      refine .inl ⟨⟨(x :: xs).toArray⟩, ba_of ?_, ?_⟩
      · rw [ba_list, h1]
      · rw [← ba_data]; simp
  · refine .inr ⟨⟨cs.toArray⟩, ba_of ?_, R, ba_of ?_, hR⟩
    · rw [ba_list, h1]
    · rw [ba_list, h2]
theorem Cut.none {Q : ByteArray} (h : Cut Q ByteArray.empty) : False := by
  obtain ⟨R, e, hR⟩ := h
  have := congrArg ByteArray.size e
  rw [ba_size] at this
  have z : ByteArray.empty.size = 0 := rfl
  omega
theorem Cut.size {Q X : ByteArray} (h : Cut Q X) : Q.size < X.size := by
  obtain ⟨R, e, hR⟩ := h
  have := congrArg ByteArray.size e
  rw [ba_size] at this
  omega
theorem cut_extract (X : ByteArray) (k : Nat) (h : k < X.size) : Cut (X.extract 0 k) X := by
  refine ⟨X.extract k X.size, ?_, ?_⟩
  · apply ba_ext
    rw [ByteArray.data_append, ByteArray.data_extract, ByteArray.data_extract]
    have : X.data.size = X.size := rfl
    rw [Array.extract_append_extract]
    simp
    omega
  · have := ext_size X (k : Int) (by omega) (by omega)
    simp only [Int.toNat_natCast] at this
    omega

/-! ### numbers -/

/-- A byte behind which there is more. -/
def More (l : List Int) : Prop := ∀ x ∈ l, 128 ≤ x ∧ x < 256
theorem ch_more {y : Int} (h : 0 ≤ y) : 128 ≤ ch y ∧ ch y < 256 := by
  rw [(ch_is h).1]; omega
theorem putL_cut : ∀ (k : Nat) (y : Int) (P R : List Int), 0 ≤ y → P ++ R = putL k y → R ≠ [] → More P
  | 0, y, P, R, _, e, hR => by
    simp only [putL] at e
    have := List.append_eq_nil_iff.1 e
    exact absurd this.2 hR
  | k + 1, y, P, R, hy, e, hR => by
    cases P with
    | nil => intro x hx; simp at hx
    | cons p P =>
      unfold putL at e
      split at e
      · simp only [List.cons_append, List.cons.injEq] at e
        intro x hx
        rcases List.mem_cons.1 hx with rfl | hx
        · rw [e.1]; exact ch_more hy
        · exact putL_cut k (y / 128) P R (by omega) e.2 hR x hx
      · simp only [List.cons_append, List.cons.injEq] at e
        have := List.append_eq_nil_iff.1 e.2
        exact absurd this.2 hR
theorem get_more (n : Nat) (s : ByteArray) (h : More (bytesL s)) (h9 : s.size ≤ 9) : ∀ (m i : Nat) (acc : Int), i ≤ s.size → s.size - i < m → F73_l7 n s m acc (i : Int) = some (0, 0, 10)
  | 0, i, _, _, hm => by omega
  | m + 1, i, acc, hi, hm => by
    have hl : (bytesL s).length = s.size := bytesL_len s
    unfold F73_l7
    by_cases hlt : i < s.size
    · have hi' : i < (bytesL s).length := by omega
      have hdd : decide ((i : Int) < ((bytesL s).length : Int)) = true := by rw [decide_eq_true_eq]; omega
      obtain ⟨b1, b2⟩ := h _ (List.getElem_mem hi')
      have i9 : ((i : Int) == 9) = false := by rw [beq_eq_false_iff_ne]; omega
      have hz : ((bytesL s)[i] == 0) = false := by rw [beq_eq_false_iff_ne]; omega
      have hl8 : decide ((bytesL s)[i] < 128) = false := by rw [decide_eq_false_iff_not]; omega
      have w7 : IntKind.wrap .i64 (7 * (i : Int)) = 7 * (i : Int) := w64 (by omega) (by omega)
      have w1 : IntKind.wrap .i64 ((i : Int) + 1) = ((i + 1 : Nat) : Int) := by rw [w64 (by omega) (by omega)]; push_cast; rfl
      have j10 : ∀ acc, F73_j10 n acc (i : Int) (bytesL s)[i] (F73_l7 n s m) = some (0, 0, 10) := by
        intro acc
        unfold F73_j10
        rw [hl8, w7, w1]
        simp only [Bool.false_eq_true, if_false]
        rw [if_pos (by omega)]
        exact get_more n s h h9 m (i + 1) _ (by omega) (by omega)
      have j9 : ∀ acc, F73_j9 n acc (i : Int) (bytesL s)[i] (F73_l7 n s m) = some (0, 0, 10) := by
        intro acc
        unfold F73_j9
        rw [hz]
        simp only [Bool.false_eq_true, if_false, j10, ite_self]
      rw [if_pos hdd, ixb s i hi']
      simp only [Option.bind_some, i9, Bool.false_eq_true, if_false, j9]
    · have hdd : decide ((i : Int) < ((bytesL s).length : Int)) = false := by rw [decide_eq_false_iff_not]; omega
      rw [if_neg (by rw [hdd]; decide)]
      rfl
theorem bytesL_mkStr_putL (k : Nat) (y : Int) (h : 0 ≤ y) : bytesL (mkStr (putL k y)) = putL k y := by
  refine bytesL_mk _ (fun x hx => ?_)
  have : ∀ (k : Nat) (y : Int), 0 ≤ y → ∀ x ∈ putL k y, 0 ≤ x ∧ x < 256 := by
    intro k
    induction k with
    | zero => intro y _ x hx; simp [putL] at hx
    | succ k ih =>
      intro y hy x hx
      unfold putL at hx
      split at hx
      · rcases List.mem_cons.1 hx with rfl | hx
        · have := ch_more hy; omega
        · exact ih (y / 128) (by omega) x hx
      · rw [List.mem_singleton.1 hx, wrap_u8]; omega
  exact this k y h x hx
theorem get_cut {n : Nat} (hn : 10 ≤ n) {x : Int} (h0 : 0 ≤ x) {Q : ByteArray} (h : Cut Q (pt x)) : F73 n Q = some (0, 0, 10) := by
  have hsz := h.size
  have hp := pt_size x
  obtain ⟨R, e, hR⟩ := h
  have hb : bytesL Q ++ bytesL R = putL 10 x := by
    rw [← bytesL_app, e, pt, bytesL_mkStr_putL 10 x h0]
  have hne : bytesL R ≠ [] := by
    intro e2
    have h2 : R.size = 0 := by
      have := congrArg List.length e2
      rw [bytesL_len] at this
      exact this
    omega
  have := get_more n Q (putL_cut 10 x _ _ h0 hb hne) (by omega) (n + 8) 0 0 (by omega) (by omega)
  unfold F73
  simpa using this
theorem texts_cut {n : Nat} (hn : 10 ≤ n) {t : ByteArray} (ht : t.size ≤ 12) {Q : ByteArray} (h : Cut Q (tx t)) : F117 n Q 12 = some (ByteArray.empty, 0, 10) := by
  have hp : pu (t.size : Int) = pt (t.size : Int) := pu_small (by omega) (by omega)
  have hp1 : (pt (t.size : Int)).size = 1 := pt_one (by omega)
  have key : Cut Q (pt (t.size : Int)) ∨ ∃ Q', Q = pt (t.size : Int) ++ Q' ∧ Q'.size < t.size := by
    rw [tx, hp] at h
    by_cases hz : 1 ≤ t.size
    · rcases h.split hz with h | ⟨Q', e, h⟩
      · exact .inl h
      · exact .inr ⟨Q', e, h.size⟩
    · left
      obtain ⟨R, e, hR⟩ := h
      refine ⟨R, ?_, hR⟩
      rw [e]
      have : t = ByteArray.empty := ba_of (by
        have : t.data.toList.length = 0 := by rw [ba_data]; omega
        rw [List.eq_nil_of_length_eq_zero this]; rfl)
      rw [this, ba_nil_r]
  unfold F117
  rcases key with h | ⟨Q', e, h⟩
  · rw [get_cut hn (by omega) h]
    rfl
  · have hs : (pt (t.size : Int) ++ Q').size = 1 + Q'.size := by rw [ba_size, hp1]
    rw [e, get_pt n hn _ (by omega) (by omega) Q' (by omega)]
    have m1 : IntKind.wrap .u64 (imax 12 0) = 12 := rfl
    have w0 : IntKind.wrap .u64 (IntKind.wrap .i64 (((pt (t.size : Int) ++ Q').size : Int) - ((pt (t.size : Int)).size : Int))) = Q'.size := by
      rw [hs, hp1, w64 (by omega) (by omega), wrap_u64]; omega
    have c1 : decide ((12 : Int) < (t.size : Int)) = false := by rw [decide_eq_false_iff_not]; omega
    have c2 : decide ((Q'.size : Int) < (t.size : Int)) = true := by rw [decide_eq_true_eq]; omega
    simp only [Option.bind_some, bne_self_eq_false, Bool.false_eq_true, if_false, m1, w0, c1, c2, if_true]
theorem ints_cut {n : Nat} (hn : 10 ≤ n) {v : Int} {Q : ByteArray} (h : Cut Q (zg v)) : ∃ u, F118 n Q = some (u, 0, 10) := by
  unfold F118 F121
  rw [get_cut hn (xor_in _ _).1 h]
  exact ⟨_, rfl⟩

/-! ### parts -/

theorem num_cut {n : Nat} (hn : 10 ≤ n) {A Q : ByteArray} {x : Int} (h0 : 0 ≤ x) (h1 : x ≤ 1000000) (h : Cut Q (pu x)) (hs : (A ++ Q).size ≤ 100000) : ∃ a, F104 n ⟨A ++ Q, A.size, 0⟩ = some (0, ⟨A ++ Q, a, 10⟩) := by
  rw [pu_small h0 (by omega)] at h
  have e00 : ((0 : Int) != 0) = false := rfl
  have hc : 0 ≤ ((A.size : Nat) : Int) ∧ ((A.size : Nat) : Int) ≤ ((A ++ Q).size : Int) := by rw [ba_size]; omega
  have et : (((A.size : Nat) : Int)).toNat = A.size := rfl
  unfold F104 F116
  simp only [e00, Bool.false_eq_true, if_false, if_pos hc, et, ext_app, get_cut hn h0 h, Option.bind_some]
  exact ⟨_, rfl⟩
theorem num_on {n : Nat} {s : ByteArray} {a : Int} : F104 n ⟨s, a, 10⟩ = some (0, ⟨s, a, 10⟩) := by
  unfold F104
  rfl
theorem field_cut {n : Nat} (hn : 10 ≤ n) {A Q : ByteArray} {f : Field} (hf : isF f = true) (h0 : -9223372036854775808 ≤ f.N) (h1 : f.N < 9223372036854775808) (h : Cut Q (fb f)) (hs : (A ++ Q).size ≤ 100000) : ∃ g a, F105 n ⟨A ++ Q, A.size, 0⟩ = some (g, ⟨A ++ Q, a, 10⟩) := by
  have h12 := text_few hf
  have e00 : ((0 : Int) != 0) = false := rfl
  have hc : 0 ≤ ((A.size : Nat) : Int) ∧ ((A.size : Nat) : Int) ≤ ((A ++ Q).size : Int) := by rw [ba_size]; omega
  have et : (((A.size : Nat) : Int)).toNat = A.size := rfl
  have short : Cut Q (tx f.Text) → ∃ g a, F105 n ⟨A ++ Q, A.size, 0⟩ = some (g, ⟨A ++ Q, a, 10⟩) := by
    intro h
    have t1 : (ByteArray.empty.toList == ByteArray.empty.toList) = true := beq_self_eq_true _
    have t2 : ((10 : Int) == 0) = false := rfl
    unfold F105 F116
    simp only [e00, Bool.false_eq_true, if_false, if_pos hc, et, ext_app, texts_cut hn h12 h, Option.bind_some, t1, t2, if_true]
    exact ⟨_, _, rfl⟩
  unfold fb at h
  cases hE : isE f.Text with
  | false =>
    rw [hE] at h
    exact short (by simpa using h)
  | true =>
    rw [hE] at h
    simp only [if_true] at h
    rcases h.split (pt_size _).2 with h2 | ⟨Q', rfl, h2⟩
    · exact short h2
    · obtain ⟨u, hu⟩ := ints_cut hn h2
      have hE' : (f.Text.toList == ByteArray.empty.toList) = true := hE
      have a2 : A ++ (tx f.Text ++ Q') = (A ++ tx f.Text) ++ Q' := by rw [ba_assoc]
      have w1 : IntKind.wrap .i64 ((A.size : Int) + (tx f.Text).size) = ((A ++ tx f.Text).size : Nat) := by
        have := tx_size f.Text
        simp only [ba_size] at hs
        rw [ba_size, w64 (by omega) (by omega)]; push_cast; rfl
      have hc2 : 0 ≤ (((A ++ tx f.Text).size : Nat) : Int) ∧ (((A ++ tx f.Text).size : Nat) : Int) ≤ ((A ++ (tx f.Text ++ Q')).size : Int) := by rw [a2, ba_size (A ++ tx f.Text)]; omega
      have et2 : ((((A ++ tx f.Text).size : Nat) : Int)).toNat = (A ++ tx f.Text).size := rfl
      have hext : (A ++ (tx f.Text ++ Q')).extract (A ++ tx f.Text).size (A ++ (tx f.Text ++ Q')).size = Q' := by rw [a2]; exact ext_app _ _
      unfold F105 F116
      simp only [e00, Bool.false_eq_true, if_false, if_pos hc, et, ext_app]
      rw [texts_tx n hn f.Text Q' h12 (by rw [ba_size] at hs; omega)]
      simp only [Option.bind_some, hE', if_true, beq_self_eq_true, w1, if_pos hc2, et2, hext, hu]
      exact ⟨_, _, rfl⟩
end Go.Proofs.Ytobeamaaifgllaa
