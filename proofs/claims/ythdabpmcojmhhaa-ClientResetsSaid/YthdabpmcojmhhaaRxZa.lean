/- No condition. -/
import Derived.Test.YthdabpmcojmhhaaRxZ
set_option linter.unusedVariables false
namespace Go.Rx
open Go Go.RowKit
section
variable {K V : Type} [DecidableEq K]
def mapOf (ck : K → List Lf) (c : Cod V) (l : List (K × List V)) : List (PV × PV) := l.map fun p => (.agg (ck p.1), .one (vw c p.2))
def mget (k : K) : List (K × List V) → List V
 | [] => []
 | p :: l => if k = p.1 then p.2 else mget k l
def mhas (k : K) : List (K × List V) → Bool
 | [] => false
 | p :: l => if k = p.1 then true else mhas k l
def mput (k : K) (v : List V) : List (K × List V) → List (K × List V)
 | [] => [(k, v)]
 | p :: l => if k = p.1 then (k, v) :: l else p :: mput k v l
def mcut (k : K) : List (K × List V) → List (K × List V)
 | [] => []
 | p :: l => if k = p.1 then l else p :: mcut k l
structure KeyOK (P : Program) (mt : TypeId) (ck : K → List Lf) (kv : K → Value) where
 kt : TypeId
 e : TypeId
 key : mkeyOf P mt = some (kt, e)
 val : ∀ a, (PV.agg (ck a)).toVal = some (kv a)
 chk : ∀ b a, prun P (Instr.checkKey b 10000 kt (kv a)) = some ()
 eq : ∀ a b, prun P (Op.equal kt (kv a) (kv b)) = some (decide (a = b))
 same : ∀ a, Instr.sameBits 10000 (kv a) (kv a) = true
 zero : prun P (zeroValue e) = some (.slice none 0 0)
variable {P : Program} {C : Oracle} {c : Cod V} {L : List (Nat × PV)} {M : List (Nat × Option Ob)} {d : Option Nat} {mt : TypeId} {ck : K → List Lf} {kv : K → Value}
theorem getOf_nil : getOf c ([] : List V) = fun _ => [] := by funext i; simp [getOf]
theorem findP_map (H : KeyOK P mt ck kv) (k : K) : ∀ (l : List (K × List V)) (i : Nat),
  (mhas k l = false ∧ mget k l = [] ∧ (∀ v, mput k v l = l ++ [(k, v)]) ∧ mcut k l = l ∧ findP P H.kt (kv k) (mapOf ck c l) i = some none) ∨
  (∃ j p, mhas k l = true ∧ l[j]? = some p ∧ k = p.1 ∧ mget k l = p.2 ∧ (∀ v, mput k v l = l.set j (k, v)) ∧ mcut k l = l.eraseIdx j ∧
   findP P H.kt (kv k) (mapOf ck c l) i = some (some (i + j, .agg (ck p.1), .one (vw c p.2))))
 | [], i => .inl ⟨rfl, rfl, fun _ => rfl, rfl, rfl⟩
 | p :: l, i => by
  have hf : findP P H.kt (kv k) (mapOf ck c (p :: l)) i = if k = p.1 then some (some (i, .agg (ck p.1), .one (vw c p.2))) else findP P H.kt (kv k) (mapOf ck c l) (i + 1) := by
   simp only [mapOf, List.map_cons, findP, H.val, H.eq]
   by_cases h : k = p.1 <;> simp [h]
  by_cases h : k = p.1
  ·refine .inr ⟨0, p, by simp [mhas, h], rfl, h, by simp [mget, h], fun v => by simp [mput, h], by simp [mcut, h], ?_⟩
   rw [hf, if_pos h]; rfl
  ·rcases findP_map H k l (i + 1) with ⟨h1, h2, h3, h4, h5⟩ | ⟨j, q, h1, h2, h3, h4, h5, h6, h7⟩
   ·exact .inl ⟨by simp [mhas, h, h1], by simp [mget, h, h2], fun v => by simp [mput, h, h3], by simp [mcut, h, h4], by rw [hf, if_neg h]; exact h5⟩
   ·refine .inr ⟨j + 1, q, by simp [mhas, h, h1], by simpa using h2, h3, by simp [mget, h, h4], fun v => by simp [mput, h, h5], by simp [mcut, h, h6], ?_⟩
    rw [hf, if_neg h, h7]; congr 3; omega
theorem eff_mlook (H : KeyOK P mt ck kv) {m sz : Nat} {x k : Operand} {l : List (K × List V)} {key : K} (hx : St.ev ⟨ofl L, oflO M⟩ x = .one (.mp m)) (hM : oflO M m = some (.map (mapOf ck c l)))
  (hk : St.ev ⟨ofl L, oflO M⟩ k = .agg (ck key)) (hs : c.sz = sz) (ok : Bool) :
  eff P C ⟨ofl L, oflO M⟩ d (.mlook ok mt [(0, sz)] x k) = some (mres ok (.one (vw c (mget key l))) (mhas key l), oflO M) := by
 simp only [eff, hx, hk, H.val, H.key, hM, H.chk]
 rcases findP_map (c := c) H key l 0 with ⟨h1, h2, h3, h4, h5⟩ | ⟨j, q, h1, h2, h3, h4, h5, h6, h7⟩
 ·simp only [h5, H.zero, h1, h2, PV.ofVal, nilP, nilL, List.lookup]
  simp [vw, getOf_nil, hs]
 ·simp only [h7, h1, h4]
  rfl
theorem eff_mset (H : KeyOK P mt ck kv) {m : Nat} {x k v : Operand} {l : List (K × List V)} {key : K} {y : List V} (hx : St.ev ⟨ofl L, oflO M⟩ x = .one (.mp m)) (hM : oflO M m = some (.map (mapOf ck c l)))
  (hk : St.ev ⟨ofl L, oflO M⟩ k = .agg (ck key)) (hv : St.ev ⟨ofl L, oflO M⟩ v = .one (vw c y)) :
  eff P C ⟨ofl L, oflO M⟩ d (.mset mt x k v) = some (.none, oflO ((m, some (.map (mapOf ck c (mput key y l)))) :: M)) := by
 simp only [eff, hx, hk, hv, H.val, H.key, hM, H.chk]
 rcases findP_map (c := c) H key l 0 with ⟨h1, h2, h3, h4, h5⟩ | ⟨j, q, h1, h2, h3, h4, h5, h6, h7⟩
 ·simp only [h5, h3]
  simp [mapOf, PV.clean, PV.single, Lf.clean, vw, oflO_cons]
 ·subst h3
  simp only [h7, h5, H.val, H.same]
  simp [mapOf, PV.clean, PV.single, Lf.clean, vw, oflO_cons, List.map_set]
where
 oflO_cons {M : List (Nat × Option Ob)} {k : Nat} {v : Option Ob} : oflO ((k, v) :: M) = upd (oflO M) k v := rfl
theorem map_eraseIdx' {α β : Type} (f : α → β) : ∀ (l : List α) (j : Nat), (l.eraseIdx j).map f = (l.map f).eraseIdx j
 | [], _ => rfl
 | _ :: _, 0 => rfl
 | a :: l, j + 1 => by simp [List.eraseIdx, map_eraseIdx' f l j]
theorem eff_mdel (H : KeyOK P mt ck kv) {m : Nat} {x k : Operand} {l : List (K × List V)} {key : K} (hx : St.ev ⟨ofl L, oflO M⟩ x = .one (.mp m)) (hM : oflO M m = some (.map (mapOf ck c l)))
  (hk : St.ev ⟨ofl L, oflO M⟩ k = .agg (ck key)) :
  eff P C ⟨ofl L, oflO M⟩ d (.mdel mt x k) = some (.tup [], oflO ((m, some (.map (mapOf ck c (mcut key l)))) :: M)) := by
 simp only [eff, hx, hk, H.val, H.key, hM, H.chk]
 rcases findP_map (c := c) H key l 0 with ⟨h1, h2, h3, h4, h5⟩ | ⟨j, q, h1, h2, h3, h4, h5, h6, h7⟩
 ·simp only [h5, h4]; rfl
 ·simp only [h7, h6, Nat.zero_add]
  simp only [mapOf, map_eraseIdx']; rfl
omit [DecidableEq K] in
end
end Go.Rx
