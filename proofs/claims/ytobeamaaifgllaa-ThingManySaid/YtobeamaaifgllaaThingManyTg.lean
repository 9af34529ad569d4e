/-
  What was written is read: deltas. No condition.
-/
import Derived.Test.YtobeamaaifgllaaThingManyTf
import Derived.Test.YtobeamaaifgllaaThingManyP1
namespace Go.Proofs.Ytobeamaaifgllaa
open Go Go.Rx
set_option maxRecDepth 100000
set_option linter.unusedSimpArgs false
set_option linter.unnecessarySimpa false
set_option linter.unusedVariables false

theorem numr (n : Nat) (hn : 10 ≤ n) (A R : ByteArray) (x : Int) (h0 : 0 ≤ x) (h1 : x ≤ 1000000) (hs : (A ++ (pu x ++ R)).size ≤ 100000) : F104 n ⟨A ++ (pu x ++ R), A.size, 0⟩ = some (x, ⟨A ++ (pu x ++ R), ((A ++ pu x).size : Nat), 0⟩) := by
  have hp : pu x = pt x := pu_small h0 (by omega)
  rw [hp] at hs ⊢
  have hz : (A ++ (pt x ++ R)).size = A.size + ((pt x).size + R.size) := by rw [ba_size, ba_size]
  have e00 : ((0 : Int) != 0) = false := rfl
  have hc : 0 ≤ ((A.size : Nat) : Int) ∧ ((A.size : Nat) : Int) ≤ ((A ++ (pt x ++ R)).size : Int) := by rw [hz]; omega
  have et : (((A.size : Nat) : Int)).toNat = A.size := rfl
  unfold F104 F116
  simp only [e00, Bool.false_eq_true, if_false, if_pos hc, et, ext_app]
  rw [get_pt n hn x h0 (by omega) R (by rw [ba_size]; omega)]
  have wi : IntKind.wrap .i64 (imin x 1000001) = x := by unfold imin; split <;> rw [w64 (by omega) (by omega)]; omega
  have w1 : IntKind.wrap .i64 ((A.size : Int) + (pt x).size) = ((A ++ pt x).size : Nat) := by rw [ba_size, w64 (by omega) (by omega)]; push_cast; rfl
  simp only [Option.bind_some, wi, w1]

def fb (f : Field) : ByteArray := if isE f.Text then tx f.Text ++ zg f.N else tx f.Text
theorem fieldr (n : Nat) (hn : 10 ≤ n) (A R : ByteArray) (f : Field) (hf : isF f = true) (h0 : -9223372036854775808 ≤ f.N) (h1 : f.N < 9223372036854775808) (hs : (A ++ (fb f ++ R)).size ≤ 100000) : F105 n ⟨A ++ (fb f ++ R), A.size, 0⟩ = some (f, ⟨A ++ (fb f ++ R), ((A ++ fb f).size : Nat), 0⟩) := by
  have h12 : f.Text.size ≤ 12 := by
    unfold isF at hf
    split at hf
    · simp at hf; omega
    · split at hf
      · simp at hf; omega
      · cases hf
  have e00 : ((0 : Int) != 0) = false := rfl
  have hz : (A ++ (fb f ++ R)).size = A.size + ((fb f).size + R.size) := by rw [ba_size, ba_size]
  have hc : 0 ≤ ((A.size : Nat) : Int) ∧ ((A.size : Nat) : Int) ≤ ((A ++ (fb f ++ R)).size : Int) := by rw [hz]; omega
  have et : (((A.size : Nat) : Int)).toNat = A.size := rfl
  unfold F105 F116
  simp only [e00, Bool.false_eq_true, if_false, if_pos hc, et, ext_app]
  unfold fb at hs hz hc ⊢
  cases hE : isE f.Text with
  | true =>
    simp only [hE, if_true] at hs hz hc ⊢
    have hE' : (f.Text.toList == ByteArray.empty.toList) = true := hE
    have a1 : tx f.Text ++ zg f.N ++ R = tx f.Text ++ (zg f.N ++ R) := ba_assoc _ _ _
    have a2 : A ++ (tx f.Text ++ zg f.N ++ R) = (A ++ tx f.Text) ++ (zg f.N ++ R) := by rw [a1, ba_assoc]
    rw [a1, texts_tx n hn f.Text _ h12 (by rw [← a1]; rw [ba_size] at hs; omega)]
    have w1 : IntKind.wrap .i64 ((A.size : Int) + (tx f.Text).size) = ((A ++ tx f.Text).size : Nat) := by
      have := tx_size f.Text
      rw [ba_size, w64 (by omega) (by omega)]; push_cast; rfl
    rw [← a1]
    have hc2 : 0 ≤ (((A ++ tx f.Text).size : Nat) : Int) ∧ (((A ++ tx f.Text).size : Nat) : Int) ≤ ((A ++ (tx f.Text ++ zg f.N ++ R)).size : Int) := by rw [a2, ba_size (A ++ tx f.Text)]; omega
    have et2 : ((((A ++ tx f.Text).size : Nat) : Int)).toNat = (A ++ tx f.Text).size := rfl
    simp only [Option.bind_some, hE', if_true, beq_self_eq_true, w1, if_pos hc2, et2]
    have hext : (A ++ (tx f.Text ++ zg f.N ++ R)).extract (A ++ tx f.Text).size (A ++ (tx f.Text ++ zg f.N ++ R)).size = zg f.N ++ R := by rw [a2]; exact ext_app _ _
    rw [hext, ints_zg n hn f.N h0 h1 R (by rw [a2, ba_size] at hs; omega)]
    have w2 : IntKind.wrap .i64 ((((A ++ tx f.Text).size : Nat) : Int) + (zg f.N).size) = ((A ++ (tx f.Text ++ zg f.N)).size : Nat) := by
      rw [a2, ba_size, ba_size (zg f.N)] at hs
      rw [← ba_assoc, ba_size (A ++ tx f.Text), w64 (by omega) (by omega)]; push_cast; rfl
    simp only [Option.bind_some, w2]
  | false =>
    simp only [hE, Bool.false_eq_true, if_false] at hs hz hc ⊢
    have hE' : (f.Text.toList == ByteArray.empty.toList) = false := hE
    rw [texts_tx n hn f.Text R h12 (by rw [ba_size] at hs; omega)]
    have w1 : IntKind.wrap .i64 ((A.size : Int) + (tx f.Text).size) = ((A ++ tx f.Text).size : Nat) := by
      have := tx_size f.Text
      rw [ba_size, w64 (by omega) (by omega)]; push_cast; rfl
    have hN : f.N = 0 := by
      unfold isF at hf
      split at hf
      · rename_i h; simpa using h
      · rw [hE'] at hf; cases hf
    simp only [Option.bind_some, hE', Bool.false_eq_true, if_false, w1]
    cases f; simp only at hN; subst hN; rfl
def gb (f : Field) (e : Bool) : ByteArray := if e then fb f else ByteArray.empty
theorem ba_nil_r (a : ByteArray) : a ++ ByteArray.empty = a := by
  apply ba_ext
  rw [ByteArray.data_append]
  show a.data ++ (#[] : Array UInt8) = a.data
  simp
theorem stage_gb (s : ByteArray) (f : Field) (e : Bool) : stage s f e = s ++ gb f e := by
  unfold stage gb fb
  cases e with
  | false => simp only [Bool.false_eq_true, if_false, ba_nil_r]
  | true =>
    simp only [if_true]
    cases isE f.Text with
    | true => simp only [if_true]; rw [ba_assoc]
    | false => simp only [Bool.false_eq_true, if_false]

/-- One field, read if the mask says so. -/
theorem back1 {β : Type} (n : Nat) (hn : 10 ≤ n) (A R : ByteArray) (f : Field) (e : Bool) (he : e = false → f = noF) (hf : isF f = true) (h0 : -9223372036854775808 ≤ f.N) (h1 : f.N < 9223372036854775808) (hs : (A ++ (gb f e ++ R)).size ≤ 100000) (G : Int → ByteArray → ByteArray → Int → Int → Option β) :
    (if e = true then (F105 n ⟨A ++ (gb f e ++ R), A.size, 0⟩).bind (fun r => G r.1.N r.1.Text r.2.s r.2.at_ r.2.e) else G 0 ByteArray.empty (A ++ (gb f e ++ R)) A.size 0) = G f.N f.Text (A ++ gb f e ++ R) ((A ++ gb f e).size : Nat) 0 := by
  rw [ba_assoc]
  cases e with
  | false =>
    have := he rfl
    subst this
    simp only [Bool.false_eq_true, if_false, gb, ba_nil_r]
    rfl
  | true =>
    have hg : gb f true = fb f := rfl
    rw [hg] at hs ⊢
    simp only [if_true, fieldr n hn A R f hf h0 h1 hs, Option.bind_some]
end Go.Proofs.Ytobeamaaifgllaa
