/- No condition. -/
import Derived.Test.YtpjejnefegdoeaaGreatRxU
import Derived.Laws.Strings
namespace Go.Rx
open Go Go.RowKit
theorem bytesL_len (s : ByteArray) : (bytesL s).length = s.size := by simp [bytesL]
theorem bytesAt_of {l : List Int} {get : Nat → List Lf} (h : ∀ i (hi : i < l.length), get i = [.val (.int .u8 l[i])]) : ∀ n, n ≤ l.length → bytesAt get n = some (l.take n)
 | 0, _ => by simp [bytesAt]
 | n + 1, hn => by
  simp only [bytesAt, bytesAt_of h n (by omega), h n (by omega)]
  rw [List.take_append_getElem]
theorem bytesAt_getOf (l : List Int) : bytesAt (getOf (codI .u8) l) l.length = some l := by
 have := bytesAt_of (l := l) (get := getOf (codI .u8) l) (fun i hi => by simp [getOf, codI, hi]) l.length (Nat.le_refl _)
 rwa [List.take_length] at this
section
variable {P : Program} {C : Oracle} {L : List (Nat × PV)} {M : List (Nat × Option Ob)} {d : Option Nat}
theorem eff_s2b {el : TypeId} {x : Operand} {s : ByteArray} (hx : St.ev ⟨ofl L, oflO M⟩ x = .one (ls s)) :
  eff P C ⟨ofl L, oflO M⟩ d (.s2b el x) = some (.one (vw (codI .u8) (bytesL s)), oflO M) := by
 simp only [eff, hx, vw, bytesL_len]
 rfl
theorem eff_s2bo {el el2 dd : Nat} {x : Operand} {s : ByteArray} (hx : St.ev ⟨ofl L, oflO M⟩ x = .one (ls s)) (hk : oflO M dd = none) (hkk : Nat.ble (dd + 1) pbase = true) (h2 : fixM + el = el2) :
  eff P C ⟨ofl L, oflO M⟩ (some dd) (.s2bo el x) = some (.one (.osl dd 0 0 (bytesL s).length), oflO ((dd, some (.arr el2 (codI .u8).sz 0 (bytesL s).length (getOf (codI .u8) (bytesL s)))) :: M)) := by
 subst h2
 simp only [eff, hx, hk, hkk, bytesL_len, if_true]
 rfl
theorem eff_b2s {x : Operand} {l : List Int} (hx : St.ev ⟨ofl L, oflO M⟩ x = .one (vw (codI .u8) l)) :
  eff P C ⟨ofl L, oflO M⟩ d (.b2s x) = some (.one (ls (mkStr l)), oflO M) := by
 simp only [eff, hx, vw, bytesAt_getOf]
 rfl
theorem eff_b2sO {x : Operand} {l : List Int} {k g el : Nat} (hx : St.ev ⟨ofl L, oflO M⟩ x = .one (.osl k g 0 l.length)) (hM : oflO M k = some (.arr el (codI .u8).sz g l.length (getOf (codI .u8) l))) :
  eff P C ⟨ofl L, oflO M⟩ d (.b2s x) = some (.one (ls (mkStr l)), oflO M) := by
 have h : bytesAt (fun i => if i < l.length then getOf (codI .u8) l (0 + i) else []) l.length = some l := by
  have := bytesAt_of (l := l) (get := fun i => if i < l.length then getOf (codI .u8) l (0 + i) else []) (fun i hi => by simp [getOf, codI, hi]) l.length (Nat.le_refl _)
  rwa [List.take_length] at this
 simp only [eff, hx, hM, h]
 rw [if_pos ⟨trivial, rfl, by omega⟩]
 rfl
theorem pr_index {t : TypeId} (ht : P.underlying t = some .string) {s : ByteArray} {k : IntKind} {i b : Int} (h : ix (bytesL s) i = some b) : prun P ((Prim.index t).sem [.string s, .int k i]) = some (.int .u8 b) := by
 obtain ⟨h0, h1, h2, h3⟩ := ix_some h
 rw [bytesL_len] at h1
 have hlt : i.toNat < s.size := by omega
 have hb : b = (s[i.toNat].toNat : Int) := by
  simp only [bytesL, List.getElem?_map, mj] at h3
  obtain ⟨u, hu, rfl⟩ := h3
  have : u = s[i.toNat] := by
   rw [List.getElem?_eq_some_iff] at hu
   obtain ⟨_, rfl⟩ := hu
   rfl
  rw [this]
 subst hb
 have h4 : (if 0 ≤ i then s[i.toNat]? else none) = some s[i.toNat] := by rw [if_pos h0, ByteArray.getElem?_lt' s _ hlt]
 simp [Prim.sem, Instr.index, asIntOf, underlying, program, ht, bind, Sem.bind, pure, prun, h4]
theorem pr_cutS {t : TypeId} (ht : P.underlying t = some .string) {s : ByteArray} {k l : IntKind} {a b : Int} (h : 0 ≤ a ∧ a ≤ b ∧ b ≤ (s.size : Int)) : prun P ((Prim.slice t true true).sem [.string s, .int k a, .int l b]) = some (.string (s.extract a.toNat b.toNat)) := by
 obtain ⟨h0, h1, h2⟩ := h
 have eb : (b.toNat : Int) = b := Int.toNat_of_nonneg (by omega)
 simp [Prim.sem, Instr.sliceAt, Instr.slice, Instr.sliceBounds, Instr.sliceBound, asIntOf, underlying, program, ht, bind, Sem.bind, pure, prun, h0, h1, h2, eb, (by omega : 0 ≤ b)]
theorem pr_cutL {t : TypeId} (ht : P.underlying t = some .string) {s : ByteArray} {k : IntKind} {a : Int} (h : 0 ≤ a ∧ a ≤ (s.size : Int)) : prun P ((Prim.slice t true false).sem [.string s, .int k a]) = some (.string (s.extract a.toNat s.size)) := by
 obtain ⟨h0, h1⟩ := h
 simp [Prim.sem, Instr.sliceAt, Instr.slice, Instr.sliceBounds, Instr.sliceBound, asIntOf, underlying, program, ht, bind, Sem.bind, pure, prun, h0, h1]
theorem pr_cutH {t : TypeId} (ht : P.underlying t = some .string) {s : ByteArray} {l : IntKind} {b : Int} (h : 0 ≤ b ∧ b ≤ (s.size : Int)) : prun P ((Prim.slice t false true).sem [.string s, .int l b]) = some (.string (s.extract 0 b.toNat)) := by
 obtain ⟨h1, h2⟩ := h
 simp [Prim.sem, Instr.sliceAt, Instr.slice, Instr.sliceBounds, Instr.sliceBound, asIntOf, underlying, program, ht, bind, Sem.bind, pure, prun, h1, h2]
variable {α : Type} {Q : α → PEx → St → Prop}
end
end Go.Rx
