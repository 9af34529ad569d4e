/- No condition. -/
import Derived.Test.YtobeamaaifgllaaRxBc
set_option linter.unusedVariables false
namespace Go.Rx
open Go Go.RowKit
section
variable {α : Type}
def cloneL (l : List α) : Option (List α) := if l.length ≤ 1000000 then some l else none
def insL (l : List α) (i : Int) (a : α) : Option (List α) := if 0 ≤ i ∧ i ≤ (l.length : Int) ∧ l.length ≤ 1000000 then some (l.take i.toNat ++ a :: l.drop i.toNat) else none
def delL (l : List α) (i j : Int) : Option (List α) := if 0 ≤ i ∧ i < j ∧ j ≤ (l.length : Int) ∧ l.length ≤ 1000000 then some (l.take i.toNat ++ l.drop j.toNat) else none
variable {c : Cod α} {T f : Nat}
theorem getOf_in (l : List α) : (fun i => if i < l.length then getOf c l i else []) = getOf c l := by
 funext i
 by_cases h : i < l.length
 ·rw [if_pos h]
 ·rw [if_neg h]; simp [getOf, h]
theorem cloneO_is {l r : List α} (h : cloneL l = some r) : cloneO T c.sz f f [.one (vw c l)] [] = some (.one (.osl 1000000 0 0 r.length), [.arr T c.sz 0 r.length (getOf c r)]) := by
 unfold cloneL at h
 split at h
 ·rename_i hl
  cases h
  simp only [cloneO, vw]
  rw [if_pos (by simp [hl]), getOf_in]
  rfl
 ·cases h
theorem getOf_ins (l : List α) (i : Nat) (a : α) (hi : i ≤ l.length) : insG l.length i (getOf c l) (c.enc a) = getOf c (l.take i ++ a :: l.drop i) := by
 have lt : (l.take i).length = i := by rw [List.length_take]; omega
 funext j
 unfold insG
 by_cases h1 : j < i
 ·rw [if_pos h1]
  simp only [getOf, List.getD_eq_getElem?_getD, List.getElem?_map]
  rw [List.getElem?_append_left (by omega), List.getElem?_take, if_pos h1]
 ·rw [if_neg h1]
  by_cases h2 : j = i
  ·subst h2
   rw [if_pos rfl]
   simp only [getOf, List.getD_eq_getElem?_getD, List.getElem?_map]
   rw [List.getElem?_append_right (by omega), lt, Nat.sub_self]
   rfl
  ·rw [if_neg h2]
   obtain ⟨q, rfl⟩ : ∃ q, j = q + 1 := ⟨j - 1, by omega⟩
   simp only [getOf, List.getD_eq_getElem?_getD, List.getElem?_map]
   rw [List.getElem?_append_right (by omega), lt, show q + 1 - i = (q - i) + 1 by omega, List.getElem?_cons_succ, List.getElem?_drop]
   congr 3
   omega
theorem insO_is {l r : List α} {i : Int} {a : α} (h : insL l i a = some r) (hl : (c.enc a).length = c.sz) (hc : (c.enc a).all (Lf.clean true) = true) :
  insO T c.sz f f [.one (.osl 1000000 0 0 l.length), .one (li .i64 i), .one (.csl 1000001 c.sz 0 1)] [.arr T c.sz 0 l.length (getOf c l), .cells (c.enc a)] =
   some (.one (.osl 1000000 1 0 r.length), [.arr T c.sz 1 r.length (getOf c r), .cells (c.enc a)]) := by
 unfold insL at h
 split at h
 ·rename_i hi
  obtain ⟨h0, h1, h2⟩ := hi
  cases h
  have hn : natOf (li .i64 i) = some i.toNat := by simp only [natOf]; rw [if_pos h0]
  have hle : i.toNat ≤ l.length := by omega
  have hlen : (l.take i.toNat ++ a :: l.drop i.toNat).length = l.length + 1 := by
   simp only [List.length_append, List.length_take, List.length_cons, List.length_drop]; omega
  simp only [insO, hn]
  rw [if_pos (by simp [pbase, hl, hc, hle, h2]), getOf_ins l i.toNat a hle, hlen]
  rfl
 ·cases h
theorem getOf_del (l : List α) (i j : Nat) (hij : i ≤ j) (hj : j ≤ l.length) : delG i j (getOf c l) = getOf c (l.take i ++ l.drop j) := by
 have lt : (l.take i).length = i := by rw [List.length_take]; omega
 funext t
 unfold delG
 simp only [getOf, List.getD_eq_getElem?_getD, List.getElem?_map]
 by_cases h1 : t < i
 ·rw [if_pos h1, List.getElem?_append_left (by omega), List.getElem?_take, if_pos h1]
 ·rw [if_neg h1, List.getElem?_append_right (by omega), lt, List.getElem?_drop]
  congr 3
  omega
theorem delO_is {l r : List α} {i j : Int} (h : delL l i j = some r) :
  delO T c.sz f f [.one (.osl 1000000 0 0 l.length), .one (li .i64 i), .one (li .i64 j)] [.arr T c.sz 0 l.length (getOf c l)] =
   some (.one (.osl 1000000 1 0 r.length), [.arr T c.sz 1 r.length (getOf c r)]) := by
 unfold delL at h
 split at h
 ·rename_i hi
  obtain ⟨h0, h1, h2, h3⟩ := hi
  cases h
  have hn : natOf (li .i64 i) = some i.toNat := by simp only [natOf]; rw [if_pos h0]
  have hm : natOf (li .i64 j) = some j.toNat := by simp only [natOf]; rw [if_pos (by omega)]
  have hij : i.toNat < j.toNat := by omega
  have hle : j.toNat ≤ l.length := by omega
  have hlen : (l.take i.toNat ++ l.drop j.toNat).length = l.length - (j.toNat - i.toNat) := by
   simp only [List.length_append, List.length_take, List.length_drop]; omega
  simp only [delO, hn, hm]
  rw [if_pos (by simp [pbase, Nat.blt_eq, hij, hle, h3]), getOf_del l i.toNat j.toNat (by omega) hle, hlen]
  rfl
 ·cases h
end
theorem orC_hit {A B : Oracle} {f : Nat} {args : List PV} {os : List Ob} {r : PV × List Ob} (h : A f args os = some r) : orC A B f args os = some r := by simp only [orC, h]
theorem orC_skip {A B : Oracle} {f : Nat} {args : List PV} {os : List Ob} {r : PV × List Ob} (h0 : A f args os = none) (h : B f args os = some r) : orC A B f args os = some r := by simp only [orC, h0, h]
end Go.Rx
