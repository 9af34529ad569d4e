/- No condition. -/
import Derived.Test.YtobeamaaifgllaaRxU
import Derived.Laws.Strings
namespace Go.Rx
open Go Go.RowKit
theorem bytesL_len (s : ByteArray) : (bytesL s).length = s.size := by simp [bytesL]
theorem bytesAt_of {l : List Int} {get : Nat → List Lf} (h : ∀ i (hi : i < l.length), get i = [.val (.int .u8 l[i])]) : ∀ n, n ≤ l.length → bytesAt get n = some (l.take n)
 | 0, _ => by simp [bytesAt]
 | n + 1, hn => by
  simp only [bytesAt, bytesAt_of h n (by omega), h n (by omega)]
  rw [List.take_append_getElem]
theorem bytesAt_getOf (l : List Int) : bytesAt (getOf (codI .u8) l) l.length = some l := by
 have := bytesAt_of (l := l) (get := getOf (codI .u8) l) (fun i hi => by simp [getOf, codI, hi]) l.length (Nat.le_refl _)
 rwa [List.take_length] at this
section
variable {P : Program} {C : Oracle} {L : List (Nat × PV)} {M : List (Nat × Option Ob)} {d : Option Nat}
variable {α : Type} {Q : α → PEx → St → Prop}
end
end Go.Rx
