/-
  Rx, part P: numbers of a fixed width as words of bits.
-/
import Derived.Test.YtdnfamkokhgdbaaRxN
import Derived.IntWalk
namespace Go.Rx
open Go Go.RowKit

theorem wrap_u16e (n : Int) : IntKind.u16.wrap n = n % 65536 := by simp [IntKind.wrap, IntKind.bits, IntKind.signed]
theorem wrap_u64e (n : Int) : IntKind.u64.wrap n = n % 18446744073709551616 := by simp [IntKind.wrap, IntKind.bits, IntKind.signed]
/-- A word as a number. -/
abbrev bv {w : Nat} (x : BitVec w) : Int := (x.toNat : Int)

theorem ofInt_bv {w : Nat} (x : BitVec w) : BitVec.ofInt w (x.toNat : Int) = x := by simp
theorem wrap8 {w : Nat} (x : BitVec w) : IntKind.u8.wrap (x.toNat : Int) = ((x.setWidth 8).toNat : Int) := by
  rw [IntKind.wrap_u8]; simp
theorem wrap16 {w : Nat} (x : BitVec w) : IntKind.u16.wrap (x.toNat : Int) = ((x.setWidth 16).toNat : Int) := by
  rw [wrap_u16e]; simp
theorem wrap32 {w : Nat} (x : BitVec w) : IntKind.u32.wrap (x.toNat : Int) = ((x.setWidth 32).toNat : Int) := by
  rw [IntKind.wrap_u32]; simp
theorem wrap64b {w : Nat} (x : BitVec w) : IntKind.u64.wrap (x.toNat : Int) = ((x.setWidth 64).toNat : Int) := by
  rw [wrap_u64e]; simp

theorem and32 (a b : Int) : bitsI .and .u32 a b = ((BitVec.ofInt 32 a &&& BitVec.ofInt 32 b).toNat : Int) := by
  show IntKind.u32.wrap (((BitVec.ofInt 32 a &&& BitVec.ofInt 32 b).toNat : Nat) : Int) = _
  rw [wrap32, BitVec.setWidth_eq]
theorem or32 (a b : Int) : bitsI .or .u32 a b = ((BitVec.ofInt 32 a ||| BitVec.ofInt 32 b).toNat : Int) := by
  show IntKind.u32.wrap (((BitVec.ofInt 32 a ||| BitVec.ofInt 32 b).toNat : Nat) : Int) = _
  rw [wrap32, BitVec.setWidth_eq]
theorem xor32 (a b : Int) : bitsI .xor .u32 a b = ((BitVec.ofInt 32 a ^^^ BitVec.ofInt 32 b).toNat : Int) := by
  show IntKind.u32.wrap (((BitVec.ofInt 32 a ^^^ BitVec.ofInt 32 b).toNat : Nat) : Int) = _
  rw [wrap32, BitVec.setWidth_eq]
theorem and16 (a b : Int) : bitsI .and .u16 a b = ((BitVec.ofInt 16 a &&& BitVec.ofInt 16 b).toNat : Int) := by
  show IntKind.u16.wrap (((BitVec.ofInt 16 a &&& BitVec.ofInt 16 b).toNat : Nat) : Int) = _
  rw [wrap16, BitVec.setWidth_eq]
theorem or16 (a b : Int) : bitsI .or .u16 a b = ((BitVec.ofInt 16 a ||| BitVec.ofInt 16 b).toNat : Int) := by
  show IntKind.u16.wrap (((BitVec.ofInt 16 a ||| BitVec.ofInt 16 b).toNat : Nat) : Int) = _
  rw [wrap16, BitVec.setWidth_eq]
theorem xor16 (a b : Int) : bitsI .xor .u16 a b = ((BitVec.ofInt 16 a ^^^ BitVec.ofInt 16 b).toNat : Int) := by
  show IntKind.u16.wrap (((BitVec.ofInt 16 a ^^^ BitVec.ofInt 16 b).toNat : Nat) : Int) = _
  rw [wrap16, BitVec.setWidth_eq]
theorem shl32 (x : BitVec 32) (b : Int) : shlI .u32 (x.toNat : Int) b = ((x <<< b.toNat).toNat : Int) := by
  simp only [shlI, IntKind.wrap_u32, IntKind.bits]
  rw [show ((x.toNat : Int) * 2 ^ (min b.toNat 32)) = ((x.toNat * 2 ^ (min b.toNat 32) : Nat) : Int) by push_cast; rfl]
  rw [BitVec.toNat_shiftLeft, Nat.shiftLeft_eq]
  rcases Nat.le_total b.toNat 32 with h | h
  · rw [Nat.min_eq_left h]; omega
  · rw [Nat.min_eq_right h]
    have : 2 ^ b.toNat = 2 ^ 32 * 2 ^ (b.toNat - 32) := by rw [← Nat.pow_add]; congr 1; omega
    rw [this, show x.toNat * (2 ^ 32 * 2 ^ (b.toNat - 32)) = 2 ^ 32 * (x.toNat * 2 ^ (b.toNat - 32)) by rw [← Nat.mul_assoc, Nat.mul_comm x.toNat, Nat.mul_assoc]]
    rw [Nat.mul_mod_right]; omega
theorem shr_bv (w : Nat) (k : IntKind) (hk : k.bits = w) (x : BitVec w) (b : Int) : shrI k (x.toNat : Int) b = ((x >>> b.toNat).toNat : Int) := by
  simp only [shrI, hk]
  rw [show ((2 : Int) ^ (min b.toNat w)) = ((2 ^ (min b.toNat w) : Nat) : Int) by push_cast; rfl, Int.fdiv_eq_ediv_of_nonneg _ (Int.natCast_nonneg _), ← Int.natCast_ediv, BitVec.toNat_ushiftRight, Nat.shiftRight_eq_div_pow]
  rcases Nat.le_total b.toNat w with h | h
  · rw [Nat.min_eq_left h]
  · rw [Nat.min_eq_right h, Nat.div_eq_of_lt x.isLt, Nat.div_eq_of_lt (Nat.lt_of_lt_of_le x.isLt (Nat.pow_le_pow_right (by omega) h))]
theorem shr32 (x : BitVec 32) (b : Int) : shrI .u32 (x.toNat : Int) b = ((x >>> b.toNat).toNat : Int) := shr_bv 32 .u32 rfl x b
theorem shr16 (x : BitVec 16) (b : Int) : shrI .u16 (x.toNat : Int) b = ((x >>> b.toNat).toNat : Int) := shr_bv 16 .u16 rfl x b
theorem shr64 (x : BitVec 64) (b : Int) : shrI .u64 (x.toNat : Int) b = ((x >>> b.toNat).toNat : Int) := shr_bv 64 .u64 rfl x b
theorem shl16 (x : BitVec 16) (b : Int) : shlI .u16 (x.toNat : Int) b = ((x <<< b.toNat).toNat : Int) := by
  simp only [shlI, wrap_u16e, IntKind.bits]
  rw [show ((x.toNat : Int) * 2 ^ (min b.toNat 16)) = ((x.toNat * 2 ^ (min b.toNat 16) : Nat) : Int) by push_cast; rfl]
  rw [BitVec.toNat_shiftLeft, Nat.shiftLeft_eq]
  rcases Nat.le_total b.toNat 16 with h | h
  · rw [Nat.min_eq_left h]; omega
  · rw [Nat.min_eq_right h]
    have : 2 ^ b.toNat = 2 ^ 16 * 2 ^ (b.toNat - 16) := by rw [← Nat.pow_add]; congr 1; omega
    rw [this, show x.toNat * (2 ^ 16 * 2 ^ (b.toNat - 16)) = 2 ^ 16 * (x.toNat * 2 ^ (b.toNat - 16)) by rw [← Nat.mul_assoc, Nat.mul_comm x.toNat, Nat.mul_assoc]]
    rw [Nat.mul_mod_right]; omega

theorem bv_eq {w : Nat} (a b : BitVec w) : ((a.toNat : Int) == (b.toNat : Int)) = (a == b) := by
  rw [Bool.eq_iff_iff]; simp [BitVec.toNat_inj, Int.ofNat_inj]
theorem bv_ne {w : Nat} (a b : BitVec w) : ((a.toNat : Int) != (b.toNat : Int)) = (a != b) := by
  simp only [bne, bv_eq]
theorem bv_lt {w : Nat} (a b : BitVec w) : decide ((a.toNat : Int) < (b.toNat : Int)) = decide (a < b) := by
  simp [BitVec.lt_def]
theorem bv_lit {w : Nat} (a : BitVec w) (n : Nat) (h : n < 2 ^ w) : ((a.toNat : Int) == (n : Int)) = (a == BitVec.ofNat w n) := by
  rw [← bv_eq]; simp [Nat.mod_eq_of_lt h]

theorem eqb_run {P : Program} {t : TypeId} (ht : P.underlying t = some .bool) (d : Nat) (a b : Bool) {α : Type} (k : Bool → Sem α) : prun P ((Op.equalIn (d + 1) t (.bool a) (.bool b)).bind k) = prun P (k (a == b)) := by
  unfold Op.equalIn
  simp [underlying, program, ht, bind, Sem.bind, pure, prun]
theorem eqb_run' {P : Program} {t : TypeId} (ht : P.underlying t = some .bool) (a b : Bool) {α : Type} (k : Bool → Sem α) : prun P ((Op.equalIn Op.maxDepth t (.bool a) (.bool b)).bind k) = prun P (k (a == b)) := by
  have h : Op.maxDepth = 9999 + 1 := rfl
  rw [h]
  exact eqb_run ht 9999 a b k
theorem pr_eqlb {P : Program} {t : TypeId} (ht : P.underlying t = some .bool) (cx cy : Bool) (a b : Bool) : prun P ((Prim.bin .eql t cx cy).sem [.bool a, .bool b]) = some (.bool (a == b)) := by
  have h := eqb_run' ht a b fun r => Sem.pure (Value.bool r)
  simp [Prim.sem, eqGuardB, eqGuard, binOp, Op.equal, bind, pure]
  exact h
theorem pr_neqb {P : Program} {t : TypeId} (ht : P.underlying t = some .bool) (cx cy : Bool) (a b : Bool) : prun P ((Prim.bin .neq t cx cy).sem [.bool a, .bool b]) = some (.bool (!(a == b))) := by
  have h := eqb_run' ht a b fun r => Sem.pure (Value.bool !r)
  simp [Prim.sem, eqGuardB, eqGuard, binOp, Op.equal, bind, pure]
  exact h
end Go.Rx
