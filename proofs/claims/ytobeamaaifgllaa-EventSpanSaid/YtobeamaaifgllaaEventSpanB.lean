/- No condition. -/
import Derived.Test.YtobeamaaifgllaaEventSpanBb
import Derived.Test.YtobeamaaifgllaaEventSpanSd
import Derived.Test.YtobeamaaifgllaaEventSpanSi
import Derived.Test.YtobeamaaifgllaaEventSpanSc
import Derived.Test.YtobeamaaifgllaaRxBd
namespace Go.Proofs.Ytobeamaaifgllaa
open Go Go.Rx Go.Proofs
set_option maxRecDepth 100000
def B : Oracle := (orC Bb (orC (cloneO 28 11 78) (orC (insO 28 11 87) (delO 28 11 89))))
theorem B_meets : Meets Try.prog B := (Meets.or Bb_meets (Meets.or (cloneO_meets (by decide) ⟨_, Try.func78, by kernel_rfl, by kernel_rfl⟩ clone_ok) (Meets.or (insO_meets (Nat.le_of_ble_eq_true (by kernel_rfl)) ⟨_, Try.func87, by kernel_rfl, by kernel_rfl⟩ insert_ok) (delO_meets (Nat.le_of_ble_eq_true (by kernel_rfl)) ⟨_, Try.func89, by kernel_rfl, by kernel_rfl⟩ delete_ok))))
theorem B_of1 {f : Nat} {args : List PV} {os : List Ob} {r : PV × List Ob} (h : Bb f args os = some r) : B f args os = some r := by
 simp only [B, orC, h]
end Go.Proofs.Ytobeamaaifgllaa
