/- No condition. -/
import Derived.Test.YthdabpmcojmhhaaRxZ
set_option linter.unusedVariables false
namespace Go.Rx
open Go Go.RowKit
section
variable {K V : Type} [DecidableEq K]
def mapOf (ck : K → List Lf) (c : Cod V) (l : List (K × List V)) : List (PV × PV) := l.map fun p => (.agg (ck p.1), .one (vw c p.2))
def mget (k : K) : List (K × List V) → List V
 | [] => []
 | p :: l => if k = p.1 then p.2 else mget k l
def mhas (k : K) : List (K × List V) → Bool
 | [] => false
 | p :: l => if k = p.1 then true else mhas k l
def mput (k : K) (v : List V) : List (K × List V) → List (K × List V)
 | [] => [(k, v)]
 | p :: l => if k = p.1 then (k, v) :: l else p :: mput k v l
def mcut (k : K) : List (K × List V) → List (K × List V)
 | [] => []
 | p :: l => if k = p.1 then l else p :: mcut k l
structure KeyOK (P : Program) (mt : TypeId) (ck : K → List Lf) (kv : K → Value) where
 kt : TypeId
 e : TypeId
 key : mkeyOf P mt = some (kt, e)
 val : ∀ a, (PV.agg (ck a)).toVal = some (kv a)
 chk : ∀ b a, prun P (Instr.checkKey b 10000 kt (kv a)) = some ()
 eq : ∀ a b, prun P (Op.equal kt (kv a) (kv b)) = some (decide (a = b))
 same : ∀ a, Instr.sameBits 10000 (kv a) (kv a) = true
 zero : prun P (zeroValue e) = some (.slice none 0 0)
variable {P : Program} {C : Oracle} {c : Cod V} {L : List (Nat × PV)} {M : List (Nat × Option Ob)} {d : Option Nat} {mt : TypeId} {ck : K → List Lf} {kv : K → Value}
theorem getOf_nil : getOf c ([] : List V) = fun _ => [] := by funext i; simp [getOf]
theorem findP_map (H : KeyOK P mt ck kv) (k : K) : ∀ (l : List (K × List V)) (i : Nat),
  (mhas k l = false ∧ mget k l = [] ∧ (∀ v, mput k v l = l ++ [(k, v)]) ∧ mcut k l = l ∧ findP P H.kt (kv k) (mapOf ck c l) i = some none) ∨
  (∃ j p, mhas k l = true ∧ l[j]? = some p ∧ k = p.1 ∧ mget k l = p.2 ∧ (∀ v, mput k v l = l.set j (k, v)) ∧ mcut k l = l.eraseIdx j ∧
   findP P H.kt (kv k) (mapOf ck c l) i = some (some (i + j, .agg (ck p.1), .one (vw c p.2))))
 | [], i => .inl ⟨rfl, rfl, fun _ => rfl, rfl, rfl⟩
 | p :: l, i => by
  have hf : findP P H.kt (kv k) (mapOf ck c (p :: l)) i = if k = p.1 then some (some (i, .agg (ck p.1), .one (vw c p.2))) else findP P H.kt (kv k) (mapOf ck c l) (i + 1) := by
   simp only [mapOf, List.map_cons, findP, H.val, H.eq]
   by_cases h : k = p.1 <;> simp [h]
  by_cases h : k = p.1
  ·refine .inr ⟨0, p, by simp [mhas, h], rfl, h, by simp [mget, h], fun v => by simp [mput, h], by simp [mcut, h], ?_⟩
   rw [hf, if_pos h]; rfl
  ·rcases findP_map H k l (i + 1) with ⟨h1, h2, h3, h4, h5⟩ | ⟨j, q, h1, h2, h3, h4, h5, h6, h7⟩
   ·exact .inl ⟨by simp [mhas, h, h1], by simp [mget, h, h2], fun v => by simp [mput, h, h3], by simp [mcut, h, h4], by rw [hf, if_neg h]; exact h5⟩
   ·refine .inr ⟨j + 1, q, by simp [mhas, h, h1], by simpa using h2, h3, by simp [mget, h, h4], fun v => by simp [mput, h, h5], by simp [mcut, h, h6], ?_⟩
    rw [hf, if_neg h, h7]; congr 3; omega
theorem eff_mlook (H : KeyOK P mt ck kv) {m sz : Nat} {x k : Operand} {l : List (K × List V)} {key : K} (hx : St.ev ⟨ofl L, oflO M⟩ x = .one (.mp m)) (hM : oflO M m = some (.map (mapOf ck c l)))
  (hk : St.ev ⟨ofl L, oflO M⟩ k = .agg (ck key)) (hs : c.sz = sz) (ok : Bool) :
  eff P C ⟨ofl L, oflO M⟩ d (.mlook ok mt [(0, sz)] x k) = some (mres ok (.one (vw c (mget key l))) (mhas key l), oflO M) := by
 simp only [eff, hx, hk, H.val, H.key, hM, H.chk]
 rcases findP_map (c := c) H key l 0 with ⟨h1, h2, h3, h4, h5⟩ | ⟨j, q, h1, h2, h3, h4, h5, h6, h7⟩
 ·simp only [h5, H.zero, h1, h2, PV.ofVal, nilP, nilL, List.lookup]
  simp [vw, getOf_nil, hs]
 ·simp only [h7, h1, h4]
  rfl
theorem eff_mset (H : KeyOK P mt ck kv) {m : Nat} {x k v : Operand} {l : List (K × List V)} {key : K} {y : List V} (hx : St.ev ⟨ofl L, oflO M⟩ x = .one (.mp m)) (hM : oflO M m = some (.map (mapOf ck c l)))
  (hk : St.ev ⟨ofl L, oflO M⟩ k = .agg (ck key)) (hv : St.ev ⟨ofl L, oflO M⟩ v = .one (vw c y)) :
  eff P C ⟨ofl L, oflO M⟩ d (.mset mt x k v) = some (.none, oflO ((m, some (.map (mapOf ck c (mput key y l)))) :: M)) := by
 simp only [eff, hx, hk, hv, H.val, H.key, hM, H.chk]
 rcases findP_map (c := c) H key l 0 with ⟨h1, h2, h3, h4, h5⟩ | ⟨j, q, h1, h2, h3, h4, h5, h6, h7⟩
 ·simp only [h5, h3]
  simp [mapOf, PV.clean, PV.single, Lf.clean, vw, oflO_cons]
 ·subst h3
  simp only [h7, h5, H.val, H.same]
  simp [mapOf, PV.clean, PV.single, Lf.clean, vw, oflO_cons, List.map_set]
where
 oflO_cons {M : List (Nat × Option Ob)} {k : Nat} {v : Option Ob} : oflO ((k, v) :: M) = upd (oflO M) k v := rfl
theorem map_eraseIdx' {α β : Type} (f : α → β) : ∀ (l : List α) (j : Nat), (l.eraseIdx j).map f = (l.map f).eraseIdx j
 | [], _ => rfl
 | _ :: _, 0 => rfl
 | a :: l, j + 1 => by simp [List.eraseIdx, map_eraseIdx' f l j]
theorem eff_mdel (H : KeyOK P mt ck kv) {m : Nat} {x k : Operand} {l : List (K × List V)} {key : K} (hx : St.ev ⟨ofl L, oflO M⟩ x = .one (.mp m)) (hM : oflO M m = some (.map (mapOf ck c l)))
  (hk : St.ev ⟨ofl L, oflO M⟩ k = .agg (ck key)) :
  eff P C ⟨ofl L, oflO M⟩ d (.mdel mt x k) = some (.tup [], oflO ((m, some (.map (mapOf ck c (mcut key l)))) :: M)) := by
 simp only [eff, hx, hk, H.val, H.key, hM, H.chk]
 rcases findP_map (c := c) H key l 0 with ⟨h1, h2, h3, h4, h5⟩ | ⟨j, q, h1, h2, h3, h4, h5, h6, h7⟩
 ·simp only [h5, h4]; rfl
 ·simp only [h7, h6, Nat.zero_add]
  simp only [mapOf, map_eraseIdx']; rfl
omit [DecidableEq K] in
theorem eff_mlen {m : Nat} {x : Operand} {l : List (K × List V)} (hx : St.ev ⟨ofl L, oflO M⟩ x = .one (.mp m)) (hM : oflO M m = some (.map (mapOf ck c l))) :
  eff P C ⟨ofl L, oflO M⟩ d (.mlen x) = some (.one (li .i64 (l.length : Int)), oflO M) := by
 simp only [eff, hx, hM, mapOf, List.length_map]
theorem eff_storeOV {α : Type} {c : Cod α} {d : Option Nat} {sz key g el : Nat} {nl : List (Nat × Nat)} {a x : Operand} {l : List α} {i : Nat} {b : α} (ha : St.ev ⟨ofl L, oflO M⟩ a = .one (.aptr key g i 0)) (hx : (nilP nl (St.ev ⟨ofl L, oflO M⟩ x)).cells = some (c.enc b)) (hM : oflO M key = some (.arr el c.sz g l.length (getOf c l)))
  (hi : i < l.length) (hl : ∀ a, (c.enc a).length = c.sz) (hz : c.sz = sz) (hc : (c.enc b).all (Lf.clean true) = true) :
  eff P C ⟨ofl L, oflO M⟩ d (.storeV nl sz a x) = some (.none, oflO ((key, some (.arr el c.sz g (l.set i b).length (getOf c (l.set i b)))) :: M)) := by
 subst hz
 simp only [eff, hx, ha, hM]
 rw [if_pos ⟨trivial, hi, hl b, by omega, hc⟩]
 have e : (fun j => if j = i then splice (getOf c l i) 0 (c.enc b) else getOf c l j) = getOf c (l.set i b) := by
  rw [← getOf_set l i b hi]
  funext j
  split
  ·have h1 : (getOf c l i).length = c.sz := by
    rw [getOf_at (a := l[i]) (by simp [hi])]; exact hl _
   simp [splice, h1, hl b]
  ·rfl
 rw [e, List.length_set]
 rfl
theorem flat_row {V : Type} {c : Cod V} {el g : Nat} {rks : List Nat} (h : ∀ x, Lf.flat.flatL (c.enc x) = true) (l : List V) :
  (Nat.ble ([] : List Ob).length [Ob.arr el c.sz g l.length (getOf c l)].length && (rks.isEmpty || ((PV.one (.osl 1000000 g 0 l.length)).flat && [Ob.arr el c.sz g l.length (getOf c l)].all Ob.flat))) = true := by
 have hf : flatG l.length (getOf c l) = true := by
  unfold flatG
  rw [List.all_eq_true]
  intro i hi
  have hi : i < l.length := by simpa using hi
  rw [getOf_at (List.getElem?_eq_getElem hi)]
  exact h _
 simp [PV.flat, Lf.flat, Ob.flat, hf]
theorem cut_len (l : List V) (off m : Nat) (h : off + m ≤ l.length) : ((l.drop off).take m).length = m := by simp; omega
theorem eff_appNS {key el esz bytes k2 g2 el2 off m : Nat} {s x : Operand} {l : List V} (hs : St.ev ⟨ofl L, oflO M⟩ s = .one lnil) (hx : St.ev ⟨ofl L, oflO M⟩ x = .one (.osl k2 g2 off m))
  (hM : oflO M k2 = some (.arr el2 c.sz g2 l.length (getOf c l))) (hk : oflO M key = none) (hz : c.sz = esz) (hkk : Nat.ble pbase key = false)
  (h : off + m ≤ l.length ∧ ((l.drop off).take m).length * bytes ≤ maxCells ∧ ((l.drop off).take m).length ≤ maxCells) :
  eff P C ⟨ofl L, oflO M⟩ d (.app key el esz bytes s x) = some (.one (.osl key 0 0 ((l.drop off).take m).length), oflO ((key, some (.arr el c.sz 0 ((l.drop off).take m).length (getOf c ((l.drop off).take m)))) :: M)) := by
 subst hz
 have hkk' : key < pbase := by
  have : ¬ pbase ≤ key := fun h => by rw [Nat.ble_eq_true_of_le h] at hkk; cases hkk
  omega
 have e := cut_len l off m h.1
 rw [e] at h
 simp only [eff, hx, hs, hM, appP, hk]
 rw [if_pos ⟨trivial, trivial, h.1⟩, if_pos ⟨h.2.1, h.2.2, hkk'⟩, getOf_cut, e]
 rfl
theorem eff_appNO {key el esz bytes k2 g2 el2 : Nat} {s x : Operand} {l : List V} (hs : St.ev ⟨ofl L, oflO M⟩ s = .one lnil) (hx : St.ev ⟨ofl L, oflO M⟩ x = .one (.osl k2 g2 0 l.length))
  (hM : oflO M k2 = some (.arr el2 c.sz g2 l.length (getOf c l))) (hk : oflO M key = none) (hz : c.sz = esz) (hkk : Nat.ble pbase key = false)
  (h : l.length * bytes ≤ maxCells ∧ l.length ≤ maxCells) :
  eff P C ⟨ofl L, oflO M⟩ d (.app key el esz bytes s x) = some (.one (.osl key 0 0 l.length), oflO ((key, some (.arr el c.sz 0 l.length (getOf c l))) :: M)) := by
 have e : (l.drop 0).take l.length = l := by simp
 have := eff_appNS (P := P) (C := C) (d := d) (off := 0) (m := l.length) hs hx hM hk hz hkk (bytes := bytes) (el := el) (by rw [e]; exact ⟨by omega, h⟩)
 rw [e] at this
 exact this
end
end Go.Rx
