/-
  Things: which are any, their bytes, rows of them. No condition.
-/
import Derived.Test.YtobeamaaifgllaaEventTellsTj0
import Derived.Test.YtobeamaaifgllaaEventTellsTc
import Derived.Test.YtobeamaaifgllaaEventTellsP1
namespace Go.Proofs.Ytobeamaaifgllaa
open Go Go.Rx
set_option maxRecDepth 100000
set_option linter.unusedSimpArgs false
set_option linter.unnecessarySimpa false
set_option linter.unusedVariables false
def tb (t : Thing) : ByteArray := body (head (full t)) (full t)
theorem tb_size {t : Thing} (h : isTh t = true) : (tb t).size ≤ 280 ∧ 1 ≤ (tb t).size := by
  obtain ⟨f0, f1, f2, f3⟩ := isTh_few h
  have hh := head_size (full t)
  have h1 : 1 ≤ (head (full t)).size := by
    have := pu_size (full t).ID; have := pu_size (full t).Mask
    unfold head
    split <;> simp only [ba_size] <;> omega
  have g : ∀ (s : ByteArray) (f : Field) (e : Bool), s.size ≤ (stage s f e).size := fun s f e => by
    unfold stage
    split
    · split <;> simp only [ba_size] <;> omega
    · omega
  unfold tb body
  have z1 := stage_size (head (full t)) (full t).F.a0 (hs (full t).Mask 1) f0
  have z2 := stage_size (stage (head (full t)) (full t).F.a0 (hs (full t).Mask 1)) (full t).F.a1 (hs (full t).Mask 2) f1
  have z3 := stage_size (stage (stage (head (full t)) (full t).F.a0 (hs (full t).Mask 1)) (full t).F.a1 (hs (full t).Mask 2)) (full t).F.a2 (hs (full t).Mask 3) f2
  have z4 := stage_size (stage (stage (stage (head (full t)) (full t).F.a0 (hs (full t).Mask 1)) (full t).F.a1 (hs (full t).Mask 2)) (full t).F.a2 (hs (full t).Mask 3)) (full t).F.a3 (hs (full t).Mask 4) f3
  have y1 := g (head (full t)) (full t).F.a0 (hs (full t).Mask 1)
  have y2 := g (stage (head (full t)) (full t).F.a0 (hs (full t).Mask 1)) (full t).F.a1 (hs (full t).Mask 2)
  have y3 := g (stage (stage (head (full t)) (full t).F.a0 (hs (full t).Mask 1)) (full t).F.a1 (hs (full t).Mask 2)) (full t).F.a2 (hs (full t).Mask 3)
  have y4 := g (stage (stage (stage (head (full t)) (full t).F.a0 (hs (full t).Mask 1)) (full t).F.a1 (hs (full t).Mask 2)) (full t).F.a2 (hs (full t).Mask 3)) (full t).F.a3 (hs (full t).Mask 4)
  omega
theorem tbytes_eq {n : Nat} (hn : 10 ≤ n) (t : Thing) : F21 n t = some (if isTh t then (tb t, 0) else (ByteArray.empty, 11)) := by
  unfold F21
  simp only [is_eq, Option.bind_some]
  cases h : isTh t with
  | false => rfl
  | true =>
    simp only [Bool.not_true, Bool.false_eq_true, if_false, if_true]
    have := bytes_eq hn (full t) (isTh_few h)
    rw [full_is, h] at this
    have e : Delta.mk t.ID 31 t.At t.F = full t := rfl
    rw [e, this]
    rfl
theorem rtb_eq {n : Nat} (hn : 10 ≤ n) {t : Thing} (h : isTh t = true) : F19 n (full t) = some (tb t) := rbytes_eq hn (full t) rfl (isTh_few h)
theorem mk_bytes (s : ByteArray) : mkStr (bytesL s) = s := by
  apply ba_ext
  rw [mkStr_data]
  apply Array.ext'
  simp only [bytesL, List.map_map]
  have : ((fun n : Int => UInt8.ofNat n.toNat) ∘ fun b : UInt8 => (b.toNat : Int)) = id := by
    funext b; simp
  rw [this, List.map_id]
theorem bytes_add (a b : ByteArray) : bytesL (a ++ b) = bytesL a ++ bytesL b := by
  simp [bytesL, ByteArray.data_append]
theorem bytes_byteB (s : ByteArray) : (bytesL s).all byteB = true := by
  rw [List.all_eq_true]
  intro x hx
  simp only [bytesL, List.mem_map] at hx
  obtain ⟨b, _, rfl⟩ := hx
  have := b.toNat_lt
  simp only [byteB, Bool.and_eq_true, decide_eq_true_eq]
  omega
theorem bldAdd_s {a b : ByteArray} (h : a.size + b.size ≤ 1000000) : bldAdd (bytesL a) b = some (bytesL (a ++ b)) := by
  unfold bldAdd
  rw [if_pos (by rw [bytesL_len, Nat.ble_eq]; omega), bytes_add]
theorem bldStr_s {a : ByteArray} (h : 1 ≤ a.size) : bldStr (bytesL a) = some a := by
  unfold bldStr
  rw [if_pos (by rw [bytes_byteB, bytesL_len]; simp [Nat.blt_eq]; omega), mk_bytes]
def prevI (l : List Thing) (i : Nat) : Option Int := if i = 0 then none else some ((l.getD (i - 1) ⟨0, ⟨0, 0⟩, ⟨noF, noF, noF, noF⟩⟩).ID)
theorem prev0 (l : List Thing) : prevI l 0 = none := rfl
theorem prevS (l : List Thing) (i : Nat) (h : i < l.length) : prevI l (i + 1) = some l[i].ID := by
  unfold prevI
  rw [if_neg (by omega)]
  have : i + 1 - 1 = i := by omega
  rw [this, List.getD_eq_getElem?_getD, List.getElem?_eq_getElem h]; rfl
theorem pred_w {i : Nat} (h : i + 1 < maxLen) : IntKind.wrap .i64 (((i + 1 : Nat) : Int) - 1) = (i : Int) := by
  simp only [maxLen] at h
  simp [IntKind.wrap, IntKind.bits, IntKind.signed]; omega
end Go.Proofs.Ytobeamaaifgllaa
