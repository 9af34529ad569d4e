/-
  Rx, part W: bytes and strings; cuts of strings; an index that is one of a few.
-/
import Derived.Test.YtpjejnefegdoeaaRxU
import Derived.Laws.Strings
namespace Go.Rx
open Go Go.RowKit

theorem bytesL_len (s : ByteArray) : (bytesL s).length = s.size := by simp [bytesL]

theorem bytesAt_of {l : List Int} {get : Nat → List Lf} (h : ∀ i (hi : i < l.length), get i = [.val (.int .u8 l[i])]) : ∀ n, n ≤ l.length → bytesAt get n = some (l.take n)
  | 0, _ => by simp [bytesAt]
  | n + 1, hn => by
    simp only [bytesAt, bytesAt_of h n (by omega), h n (by omega)]
    rw [List.take_append_getElem]
theorem bytesAt_getOf (l : List Int) : bytesAt (getOf (codI .u8) l) l.length = some l := by
  have := bytesAt_of (l := l) (get := getOf (codI .u8) l) (fun i hi => by simp [getOf, codI, hi]) l.length (Nat.le_refl _)
  rwa [List.take_length] at this

section
variable {P : Program} {C : Oracle} {L : List (Nat × PV)} {M : List (Nat × Option Ob)} {d : Option Nat}

theorem eff_s2b {el : TypeId} {x : Operand} {s : ByteArray} (hx : St.ev ⟨ofl L, oflO M⟩ x = .one (ls s)) :
    eff P C ⟨ofl L, oflO M⟩ d (.s2b el x) = some (.one (vw (codI .u8) (bytesL s)), oflO M) := by
  simp only [eff, hx, vw, bytesL_len]
  rfl
theorem eff_b2s {x : Operand} {l : List Int} (hx : St.ev ⟨ofl L, oflO M⟩ x = .one (vw (codI .u8) l)) :
    eff P C ⟨ofl L, oflO M⟩ d (.b2s x) = some (.one (ls (mkStr l)), oflO M) := by
  simp only [eff, hx, vw, bytesAt_getOf]
  rfl
theorem eff_b2sO {x : Operand} {l : List Int} {k g el : Nat} (hx : St.ev ⟨ofl L, oflO M⟩ x = .one (.osl k g 0 l.length)) (hM : oflO M k = some (.arr el (codI .u8).sz g l.length (getOf (codI .u8) l))) :
    eff P C ⟨ofl L, oflO M⟩ d (.b2s x) = some (.one (ls (mkStr l)), oflO M) := by
  have h : bytesAt (fun i => if i < l.length then getOf (codI .u8) l (0 + i) else []) l.length = some l := by
    have := bytesAt_of (l := l) (get := fun i => if i < l.length then getOf (codI .u8) l (0 + i) else []) (fun i hi => by simp [getOf, codI, hi]) l.length (Nat.le_refl _)
    rwa [List.take_length] at this
  simp only [eff, hx, hM, h]
  rw [if_pos ⟨trivial, rfl, by omega⟩]
  rfl
variable {α : Type} {Q : α → PEx → St → Prop}
end
end Go.Rx
