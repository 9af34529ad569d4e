/- No condition. -/
import Derived.Test.YthdabpmcojmhhaaRxZ
set_option linter.unusedVariables false
namespace Go.Rx
open Go Go.RowKit
section
variable {K V : Type} [DecidableEq K]
def zaj (ck : K → List Lf) (c : Cod V) (l : List (K × List V)) : List (PV × PV) := l.map fun p => (.agg (ck p.1), .one (vw c p.2))
def mget (k : K) : List (K × List V) → List V
 | [] => []
 | p :: l => if k = p.1 then p.2 else mget k l
def mhas (k : K) : List (K × List V) → Bool
 | [] => false
 | p :: l => if k = p.1 then true else mhas k l
def mput (k : K) (v : List V) : List (K × List V) → List (K × List V)
 | [] => [(k, v)]
 | p :: l => if k = p.1 then (k, v) :: l else p :: mput k v l
def mcut (k : K) : List (K × List V) → List (K × List V)
 | [] => []
 | p :: l => if k = p.1 then l else p :: mcut k l
structure KeyOK (P : Program) (mt : TypeId) (ck : K → List Lf) (kv : K → Value) where
 kt : TypeId
 e : TypeId
 key : mkeyOf P mt = some (kt, e)
 val : ∀ a, (PV.agg (ck a)).toVal = some (kv a)
 chk : ∀ b a, prun P (Instr.checkKey b 10000 kt (kv a)) = some ()
 eq : ∀ a b, prun P (Op.equal kt (kv a) (kv b)) = some (decide (a = b))
 same : ∀ a, Instr.sameBits 10000 (kv a) (kv a) = true
 zero : prun P (zeroValue e) = some (.slice none 0 0)
variable {P : Program} {C : zaf} {c : Cod V} {L : List (Nat × PV)} {M : List (Nat × Option Ob)} {d : Option Nat} {mt : TypeId} {ck : K → List Lf} {kv : K → Value}
theorem getOf_nil : zaa c ([] : List V) = fun _ => [] := by funext i; simp [zaa]
theorem zgi (H : KeyOK P mt ck kv) (k : K) : ∀ (l : List (K × List V)) (i : Nat),
  (mhas k l = false ∧ mget k l = [] ∧ (∀ v, mput k v l = l ++ [(k, v)]) ∧ mcut k l = l ∧ findP P H.kt (kv k) (zaj ck c l) i = some none) ∨
  (∃ j p, mhas k l = true ∧ l[j]? = some p ∧ k = p.1 ∧ mget k l = p.2 ∧ (∀ v, mput k v l = l.set j (k, v)) ∧ mcut k l = l.eraseIdx j ∧
   findP P H.kt (kv k) (zaj ck c l) i = some (some (i + j, .agg (ck p.1), .one (vw c p.2))))
 | [], i => .inl ⟨rfl, rfl, fun _ => rfl, rfl, rfl⟩
 | p :: l, i => by
  have hf : findP P H.kt (kv k) (zaj ck c (p :: l)) i = if k = p.1 then some (some (i, .agg (ck p.1), .one (vw c p.2))) else findP P H.kt (kv k) (zaj ck c l) (i + 1) := by
   simp only [zaj, yan, findP, H.val, H.eq]
   by_cases h : k = p.1 <;> simp [h]
  by_cases h : k = p.1
  ·refine .inr ⟨0, p, by simp [mhas, h], rfl, h, by simp [mget, h], fun v => by simp [mput, h], by simp [mcut, h], ?_⟩
   rw [hf, if_pos h]; rfl
  ·rcases zgi H k l (i + 1) with ⟨h1, h2, h3, h4, h5⟩ | ⟨j, q, h1, h2, h3, h4, h5, h6, h7⟩
   ·exact .inl ⟨by simp [mhas, h, h1], by simp [mget, h, h2], fun v => by simp [mput, h, h3], by simp [mcut, h, h4], by rw [hf, if_neg h]; exact h5⟩
   ·refine .inr ⟨j + 1, q, by simp [mhas, h, h1], by simpa using h2, h3, by simp [mget, h, h4], fun v => by simp [mput, h, h5], by simp [mcut, h, h6], ?_⟩
    rw [hf, if_neg h, h7]; congr 3; omega
theorem eff_mlook (H : KeyOK P mt ck kv) {m sz : Nat} {x k : Operand} {l : List (K × List V)} {key : K} (hx : St.ev ⟨ofl L, oflO M⟩ x = .one (.mp m)) (hM : oflO M m = some (.map (zaj ck c l)))
  (hk : St.ev ⟨ofl L, oflO M⟩ k = .agg (ck key)) (hs : c.sz = sz) (ok : Bool) :
  eff P C ⟨ofl L, oflO M⟩ d (.mlook ok mt [(0, sz)] x k) = some (mres ok (.one (vw c (mget key l))) (mhas key l), oflO M) := by
 simp only [eff, hx, hk, H.val, H.key, hM, H.chk]
 rcases zgi (c := c) H key l 0 with ⟨h1, h2, h3, h4, h5⟩ | ⟨j, q, h1, h2, h3, h4, h5, h6, h7⟩
 ·simp only [h5, H.zero, h1, h2, PV.ofVal, nilP, nilL, List.lookup]
  simp [vw, getOf_nil, hs]
 ·simp only [h7, h1, h4]
  rfl
theorem eff_mset (H : KeyOK P mt ck kv) {m : Nat} {x k v : Operand} {l : List (K × List V)} {key : K} {y : List V} (hx : St.ev ⟨ofl L, oflO M⟩ x = .one (.mp m)) (hM : oflO M m = some (.map (zaj ck c l)))
  (hk : St.ev ⟨ofl L, oflO M⟩ k = .agg (ck key)) (hv : St.ev ⟨ofl L, oflO M⟩ v = .one (vw c y)) :
  eff P C ⟨ofl L, oflO M⟩ d (.mset mt x k v) = some (.none, oflO ((m, some (.map (zaj ck c (mput key y l)))) :: M)) := by
 simp only [eff, hx, hk, hv, H.val, H.key, hM, H.chk]
 rcases zgi (c := c) H key l 0 with ⟨h1, h2, h3, h4, h5⟩ | ⟨j, q, h1, h2, h3, h4, h5, h6, h7⟩
 ·simp only [h5, h3]
  simp [zaj, PV.clean, PV.single, Lf.clean, vw, oflO_cons]
 ·subst h3
  simp only [h7, h5, H.val, H.same]
  simp [zaj, PV.clean, PV.single, Lf.clean, vw, oflO_cons, List.map_set]
where
 oflO_cons {M : List (Nat × Option Ob)} {k : Nat} {v : Option Ob} : oflO ((k, v) :: M) = upd (oflO M) k v := rfl
theorem zgf {α β : Type} (f : α → β) : ∀ (l : List α) (j : Nat), (l.eraseIdx j).map f = (l.map f).eraseIdx j
 | [], _ => rfl
 | _ :: _, 0 => rfl
 | a :: l, j + 1 => by simp [List.eraseIdx, zgf f l j]
theorem eff_mdel (H : KeyOK P mt ck kv) {m : Nat} {x k : Operand} {l : List (K × List V)} {key : K} (hx : St.ev ⟨ofl L, oflO M⟩ x = .one (.mp m)) (hM : oflO M m = some (.map (zaj ck c l)))
  (hk : St.ev ⟨ofl L, oflO M⟩ k = .agg (ck key)) :
  eff P C ⟨ofl L, oflO M⟩ d (.mdel mt x k) = some (.tup [], oflO ((m, some (.map (zaj ck c (mcut key l)))) :: M)) := by
 simp only [eff, hx, hk, H.val, H.key, hM, H.chk]
 rcases zgi (c := c) H key l 0 with ⟨h1, h2, h3, h4, h5⟩ | ⟨j, q, h1, h2, h3, h4, h5, h6, h7⟩
 ·simp only [h5, h4]; rfl
 ·simp only [h7, h6, ybk]
  simp only [zaj, zgf]; rfl
omit [DecidableEq K] in
theorem eff_slcO {esz key g el : Nat} {x : Operand} {lo hi : Option Operand} {l : List V} {a b : Nat} (hx : St.ev ⟨ofl L, oflO M⟩ x = .one (.osl key g 0 l.length)) (hM : oflO M key = some (.arr el c.sz g l.length (zaa c l)))
  (ha : bound? ⟨ofl L, oflO M⟩ 0 lo = some a) (hb : bound? ⟨ofl L, oflO M⟩ l.length hi = some b) (hs : c.sz = esz)
  (h1 : a ≤ b) (h2 : b ≤ l.length) : eff P C ⟨ofl L, oflO M⟩ d (.slc esz x lo hi) = some (.one (.osl key g (0 + a) (b - a)), oflO M) := by
 simp only [eff, hx, ha, hb, hM]
 rw [if_pos ⟨trivial, hs, by omega, h1, h2⟩]
theorem cut_len (l : List V) (off m : Nat) (h : off + m ≤ l.length) : ((l.drop off).take m).length = m := by simp; omega
theorem eff_appNS {key el esz bytes k2 g2 el2 off m : Nat} {s x : Operand} {l : List V} (hs : St.ev ⟨ofl L, oflO M⟩ s = .one lnil) (hx : St.ev ⟨ofl L, oflO M⟩ x = .one (.osl k2 g2 off m))
  (hM : oflO M k2 = some (.arr el2 c.sz g2 l.length (zaa c l))) (hk : oflO M key = none) (hz : c.sz = esz) (hkk : Nat.ble zac key = false)
  (h : off + m ≤ l.length ∧ ((l.drop off).take m).length * bytes ≤ zae ∧ ((l.drop off).take m).length ≤ zae) :
  eff P C ⟨ofl L, oflO M⟩ d (.app key el esz bytes s x) = some (.one (.osl key 0 0 ((l.drop off).take m).length), oflO ((key, some (.arr el c.sz 0 ((l.drop off).take m).length (zaa c ((l.drop off).take m)))) :: M)) := by
 subst hz
 have hkk' : key < zac := by
  have : ¬ zac ≤ key := fun h => by rw [ybp h] at hkk; cases hkk
  omega
 have e := cut_len l off m h.1
 rw [e] at h
 simp only [eff, hx, hs, hM, appP, hk]
 rw [if_pos ⟨trivial, trivial, h.1⟩, if_pos ⟨h.2.1, h.2.2, hkk'⟩, getOf_cut, e]
 rfl
theorem eff_appT {k to el esz bytes g g2 off m : Nat} {s x : Operand} {l l2 : List V} (hs : St.ev ⟨ofl L, oflO M⟩ s = .one (.osl k g 0 l.length)) (hM : oflO M k = some (.arr el c.sz g l.length (zaa c l)))
  (hx : St.ev ⟨ofl L, oflO M⟩ x = .one (.osl to g2 off m)) (hM2 : oflO M to = some (.arr el c.sz g2 l2.length (zaa c l2))) (hz : c.sz = esz) (hne : Nat.beq k to = false) (hkk : Nat.ble zac k = false)
  (h : off + m ≤ l2.length ∧ (l.length + ((l2.drop off).take m).length) * bytes ≤ zae ∧ l.length + ((l2.drop off).take m).length ≤ zae) :
  eff P C ⟨ofl L, oflO M⟩ d (.appT to el esz bytes s x) = some (.one (.osl to (g2 + 1) 0 (l ++ (l2.drop off).take m).length),
   oflO ((to, some (.arr el c.sz (g2 + 1) (l ++ (l2.drop off).take m).length (zaa c (l ++ (l2.drop off).take m)))) :: (k, some (.arr el c.sz (g + 1 + 1) ([] : List V).length (zaa c ([] : List V)))) :: M)) := by
 subst hz
 have hkp : k < zac := by
  have : ¬ zac ≤ k := fun h => by rw [ybp h] at hkk; cases hkk
  omega
 have hkt : k ≠ to := fun e => by rw [e, Nat.beq_refl] at hne; cases hne
 have e := cut_len l2 off m h.1
 rw [e] at h
 simp only [eff, hs, hx, hM2]
 rw [if_pos ⟨hkt, trivial, trivial, h.1⟩, getOf_cut]
 simp only [appP, hM]
 rw [if_pos ⟨trivial, trivial, trivial, trivial, h.2.1, h.2.2⟩]
 have eg : (if m = 1 then (fun i => if i = l.length then zaa c ((l2.drop off).take m) 0 else zaa c l i) else (fun i => if i < l.length then zaa c l i else zaa c ((l2.drop off).take m) (i - l.length))) = zaa c (l ++ (l2.drop off).take m) := by
  generalize hq : (l2.drop off).take m = q
  rw [hq] at e
  split
  ·rename_i h1
   match q, e with
   | [a], _ => exact getOf_app1 l a
   | [], e => simp at e; omega
   | _ :: _ :: _, e => simp at e; omega
  ·exact getOf_app l q
 simp only [takeO, zab, zah _ _ (Ne.symm hkt), hM2, eg]
 rw [if_pos ⟨trivial, trivial, trivial, trivial, hkt, hkp⟩, yae, e, getOf_nil]
 have : upd (upd (oflO M) k (some (.arr el c.sz (g + 1) (l.length + m) (zaa c (l ++ (l2.drop off).take m))))) k (some (.arr el c.sz (g + 1 + 1) 0 fun _ => [])) = upd (oflO M) k (some (.arr el c.sz (g + 1 + 1) 0 fun _ => [])) := by
  funext j; simp only [upd]; split <;> rfl
 rw [this]; rfl
end
end Go.Rx
