/- No condition. -/
import Derived.Test.YtpjejnefegdoeaaGreatNoteReadsBb
import Derived.Test.YtpjejnefegdoeaaGreatRxBd
import Derived.Deep.RegionLaw
namespace Go.Proofs.YtpjejnefegdoeaaGreat
open Go Go.Rx Go.RowKit Go.Shelf Go.Proofs
set_option linter.unusedVariables false
theorem len_walk (b : Nat) (p : Value) (base : Option Addr) (n cap : Nat) (w : World) (hb : w.heap[b]? = some (.cells #[p, .slice base n cap] 61 (0, 0))) :
  Calls Tryz.prog 20 #[.pointer (some ⟨b, 0, none⟩)] w fun e w' => e = .returned (.int .i64 n) ∧ w' = w := by
 have h1 : w.cell? ⟨b, 1, none⟩ = some (.slice base n cap) := by rw [Lib.cell_of_heap hb]; rfl
 go_enter Tryz.func20, Tryz.ntmps20
 go_wp2
 go_ret
 exact ⟨rfl, rfl⟩
def bldL : Oracle := fun f args os =>
 match args, os with
 | [.one (.ptr k 0)], [.tcells T' [a, .osl k1 g 0 n], .arr e' sz g' n' get] =>
  if (Nat.beq f 20 && Nat.beq k pbase && Nat.beq T' 61 && selfP a && Nat.beq k1 (pbase + 1) && Nat.beq g 0 && Nat.beq g' 0 && Nat.beq n n' && Nat.beq e' 5 && Nat.beq sz 1) then
   some (.one (li .i64 n), [.tcells 61 [a, .osl (pbase + 1) 0 0 n], .arr 5 1 0 n get])
  else Option.none
 | _, _ => Option.none
theorem bldL_inv {f : Nat} {args : List PV} {os : List Ob} {r : PV × List Ob} (h : bldL f args os = some r) : ∃ a n get, f = 20 ∧ args = [.one (.ptr pbase 0)] ∧ os = [.tcells 61 [a, .osl (pbase + 1) 0 0 n], .arr 5 1 0 n get] ∧ selfP a = true ∧
  r = (.one (li .i64 n), [.tcells 61 [a, .osl (pbase + 1) 0 0 n], .arr 5 1 0 n get]) := by
 unfold bldL at h
 split at h
 ·split at h
  ·rename_i hc
   simp only [Bool.and_eq_true, Nat.beq_eq] at hc
   obtain ⟨⟨⟨⟨⟨⟨⟨⟨⟨rfl, rfl⟩, rfl⟩, ha⟩, rfl⟩, rfl⟩, rfl⟩, rfl⟩, rfl⟩, rfl⟩ := hc
   exact ⟨_, _, _, rfl, rfl, rfl, ha, (Option.some.inj h).symm⟩
  ·cases h
 ·cases h
theorem bldL_meets : Meets Tryz.prog bldL := by
 intro f args os res os' h
 obtain ⟨a, n, get, rfl, rfl, rfl, ha, hr⟩ := bldL_inv h
 obtain ⟨rfl, rfl⟩ := Prod.mk.inj hr
 refine ⟨⟨_, Tryz.func20, by kernel_rfl, by kernel_rfl⟩, fun I w E vals hH hv hsz => ?_⟩
 obtain ⟨p, xs, B⟩ := bld_of (Nat.le_of_ble_eq_true (by kernel_rfl)) hH ha
 have hsz2 : vals.size = 1 := by simpa using hsz
 have v0 := hv 0
 simp only [List.getD_cons_zero] at v0
 have e0 : vals.getD 0 undef = .pointer (some ⟨E.bl pbase, 0, none⟩) := by
  generalize vals.getD 0 undef = x at v0
  cases v0 with
  | one _ _ h => cases h with
   | imm _ _ h => cases h
   | ptr => rfl
 have ev : vals = #[.pointer (some ⟨E.bl pbase, 0, none⟩)] := by
  apply Array.ext
  ·simp [hsz2]
  ·intro i h1 h2
   have : i = 0 := by omega
   subst this
   simpa [Array.getD, hsz2] using e0
 subst ev
 have hsl : ∃ base cap, E.hv (pbase + 1) = .slice base n cap := by
  rcases B.hv with ⟨e1, e2⟩ | ⟨cap, e1⟩
  ·subst e2; exact ⟨_, _, e1⟩
  ·exact ⟨_, _, e1⟩
 obtain ⟨base, cap, hsl⟩ := hsl
 have hb := B.at_.blk
 rw [hsl] at hb
 refine (len_walk (E.bl pbase) p base n cap w hb).mono ?_
 rintro e w' ⟨rfl, rfl⟩
 exact ⟨_, I, E, rfl, hH, Ext.refl _ _, fun _ h => h, fun _ h => .inl h, .one _ _ (.imm _ _ (.val _ rfl)), fun k hk => .inl ⟨hk, rfl⟩, Wst.refl _ _⟩
def bldLen (l : List Int) : Option Int := some (l.length : Int)
theorem bldL_len {a : Lf} (ha : selfP a = true) {l : List Int} : ∀ r, bldLen l = some r → bldL 20 [.one (.ptr 1000000 0)] [.tcells 61 [a, .osl 1000001 0 0 l.length], .arr 5 (codI .u8).sz 0 l.length (getOf (codI .u8) l)] =
  some (.one (li .i64 r), [.tcells 61 [a, .osl 1000001 0 0 l.length], .arr 5 (codI .u8).sz 0 l.length (getOf (codI .u8) l)]) := by
 intro r hr
 cases hr
 simp only [bldL]
 rw [if_pos (by simp [pbase, ha, codI])]
 rfl
end Go.Proofs.YtpjejnefegdoeaaGreat
