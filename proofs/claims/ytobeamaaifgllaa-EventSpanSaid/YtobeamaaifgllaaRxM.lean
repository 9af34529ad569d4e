/- No condition. -/
import Derived.Test.YtobeamaaifgllaaRxL
namespace Go.Rx
open Go Go.RowKit
def Le (A B : Oracle) : Prop := ∀ f args os r, A f args os = some r → B f args os = some r
section
variable {P : Program} {A B : Oracle}
theorem callP_mono (h : Le A B) {wr : Bool} {objs : Nat → Option Ob} {f : FuncId} {args : List PV} {r : PV × (Nat → Option Ob)} (he : callP A wr objs f args = some r) : callP B wr objs f args = some r := by
 unfold callP at he ⊢
 split at he
 ·cases he
 ·split at he
  ·cases he
  ·rename_i os hos
   try simp only [hos]
   split at he
   ·cases he
   ·rename_i res os' hC
    rw [h _ _ _ _ hC]
    exact he
theorem gcallP_mono (h : Le A B) {ow fz : Bool} {fp : List Nat} {objs : Nat → Option Ob} {f : FuncId} {args : List PV} {r : PV × (Nat → Option Ob)} (he : gcallP A ow fz fp objs f args = some r) : gcallP B ow fz fp objs f args = some r := by
 simp only [gcallP, mj] at he ⊢
 obtain ⟨q, he, e⟩ := he
 refine ⟨q, ?_, e⟩
 unfold gcall0 at he ⊢
 split at he
 ·cases he
 ·rename_i args1 rks ha
  simp only at he ⊢
  split at he
  ·rename_i hc
   rw [if_pos hc]
   split at he
   ·rename_i args2 os h2 h3
    try simp only [h2, h3]
    split at he
    ·cases he
    ·rename_i res os' hC
     rw [h _ _ _ _ hC]
     exact he
   ·cases he
  ·cases he
theorem gcallP_fin {D : Nat → Oracle} (hA : ∀ f args os r, A f args os = some r → ∃ N, D N f args os = some r) {ow fz : Bool} {fp : List Nat} {objs : Nat → Option Ob} {f : FuncId} {args : List PV} {r : PV × (Nat → Option Ob)} (he : gcallP A ow fz fp objs f args = some r) : ∃ N, gcallP (D N) ow fz fp objs f args = some r := by
 simp only [gcallP, mj] at he ⊢
 obtain ⟨q, he, e⟩ := he
 have : ∃ N, gcall0 (D N) ow fz fp (cutO fp objs) f args = some q := by
  unfold gcall0 at he
  split at he
  ·cases he
  ·rename_i args1 rks ha
   simp only at he
   split at he
   ·rename_i hc
    split at he
    ·rename_i args2 os h2 h3
     split at he
     ·cases he
     ·rename_i res os' hC
      obtain ⟨N, hN⟩ := hA _ _ _ _ hC
      refine ⟨N, ?_⟩
      unfold gcall0
      simp only [ha, h2, h3, hN]
      rw [if_pos hc]
      exact he
    ·cases he
   ·cases he
 obtain ⟨N, hN⟩ := this
 exact ⟨N, q, hN, e⟩
theorem eff_mono (h : Le A B) {st : St} {d : Option Nat} {p : POp} {r : PV × (Nat → Option Ob)} (he : eff P A st d p = some r) : eff P B st d p = some r := by
 cases p <;> first | exact he | skip
 case call wr f xs => exact callP_mono h he
 case gcall => exact gcallP_mono h he
 case lend =>
  simp only [eff] at he ⊢
  split at he
  ·split at he
   ·split at he
    ·rename_i hc
     rw [if_pos hc]
     split at he
     ·rename_i hC
      rw [h _ _ _ _ hC]; exact he
     ·cases he
    ·cases he
   ·cases he
  ·cases he
 case gcallv =>
  simp only [eff] at he ⊢
  split at he
  ·exact gcallP_mono h he
  ·split at he
   ·rename_i hc
    rw [if_pos hc]; exact gcallP_mono h he
   ·cases he
  ·cases he
 case callv wr x xs =>
  simp only [eff] at he ⊢
  split at he
  ·exact callP_mono h he
  ·split at he
   ·rename_i hc
    rw [if_pos hc]; exact callP_mono h he
   ·cases he
  ·cases he
theorem effH_mono (h : Le A B) {st : St} {o : POper} {r : PV × (Nat → Option Ob)} (he : effH P A st o = some r) : effH P B st o = some r := by
 obtain ⟨h1, h2⟩ := effH_some he
 unfold effH
 rw [if_pos h1]; exact eff_mono h h2
theorem pOp_mono (h : Le A B) {o : POper} {st st' : St} (he : pOp P A o st = some st') : pOp P B o st = some st' := by
 rw [pOp_act] at he ⊢
 simp only [mj] at he ⊢
 obtain ⟨r, hr, e⟩ := he
 refine ⟨r, ?_, e⟩
 unfold act at hr ⊢
 split at hr
 ·exact effH_mono h hr
 ·split at hr
  ·split at hr
   ·rename_i hb; rw [if_pos hb]; exact effH_mono h hr
   ·rename_i hb; rw [if_neg hb]; exact hr
  ·exact hr
  ·cases hr
theorem pOps_mono (h : Le A B) : ∀ {os : List POper} {st st' : St}, pOps P A os st = some st' → pOps P B os st = some st'
 | [], _, _, he => he
 | o :: os, st, st', he => by
  simp only [pOps] at he ⊢
  split at he
  ·rename_i st1 h1
   rw [pOp_mono h h1]; exact pOps_mono h he
  ·cases he
theorem iter_mono {f g : St → Option (PEx × St)} (h : ∀ st r, f st = some r → g st = some r) : ∀ {n m : Nat} {st : St} {r : PEx × St}, n ≤ m → iter f n st = some r → iter g m st = some r
 | 0, _, _, _, _, he => by simp [iter] at he
 | n + 1, 0, _, _, hle, _ => by omega
 | n + 1, m + 1, st, r, hle, he => by
  simp only [iter] at he ⊢
  split at he
  ·rename_i st1 h1
   rw [h _ _ h1]; exact iter_mono h (by omega) he
  ·rename_i hne
   have := h _ _ he
   rw [this]
   cases r with
   | mk ex st1 =>
    cases ex with
    | normal => exact absurd he (hne _)
    | _ => rfl
theorem evCode_mono (h : Le A B) {n m : Nat} (hn : n ≤ m) : ∀ (c : PCode) {st : St} {r : PEx × St}, evCode P A n c st = some r → evCode P B m c st = some r := by
 intro c
 induction c with
 | skip => intro st r he; exact he
 | region keep dr ops =>
  intro st r he
  simp only [evCode] at he ⊢
  split at he
  ·cases he
  ·rename_i st1 h1
   try simp only [h1]
   split at he
   ·rename_i st2 h2
    rw [pOps_mono h h2]; exact he
   ·cases he
 | seq a b iha ihb =>
  intro st r he
  simp only [evCode] at he ⊢
  split at he
  ·rename_i st1 h1
   rw [iha h1]; exact ihb he
  ·rename_i hne
   rw [iha he]
   cases r with
   | mk ex st1 =>
    cases ex with
    | normal => exact absurd he (hne _)
    | _ => rfl
 | cond c a b iha ihb =>
  intro st r he
  simp only [evCode] at he ⊢
  split at he
  ·rename_i t ht
   cases t with
   | true => exact iha he
   | false => exact ihb he
  ·cases he
 | block id c ih =>
  intro st r he
  simp only [evCode] at he ⊢
  split at he
  ·rename_i id' st1 h1
   rw [ih h1]; exact he
  ·rename_i hne
   rw [ih he]
   cases r with
   | mk ex st1 =>
    cases ex with
    | exit id' => exact absurd he (hne _ _)
    | _ => rfl
 | loop c ih =>
  intro st r he
  simp only [evCode] at he ⊢
  exact iter_mono (fun st r h => ih h) hn he
 | exit id => intro st r he; exact he
 | scope c ih => intro st r he; simp only [evCode] at he ⊢; exact ih he
 | label => intro st r he; exact he
 | ret => intro st r he; exact he
theorem evBody_mono (h : Le A B) {n m : Nat} (hn : n ≤ m) {pf : PFunc} {args : List PV} {os : List Ob} {r : PV × List Ob} (he : evBody P A n pf args os = some r) : evBody P B m pf args os = some r := by
 unfold evBody at he ⊢
 split at he
 ·cases he
 ·rename_i ex st hne h1
  rw [evCode_mono h hn _ h1]
  cases ex with
  | exit id => exact absurd rfl (hne id)
  | normal => exact he
  | ret => exact he
 ·cases he
variable {D : Nat → Oracle}
def Sup (D : Nat → Oracle) (A : Oracle) : Prop := ∀ f args os r, A f args os = some r → ∃ N, D N f args os = some r
theorem callP_fin (_ : ∀ {i j}, i ≤ j → Le (D i) (D j)) (hA : Sup D A) {wr : Bool} {objs : Nat → Option Ob} {f : FuncId} {args : List PV} {r : PV × (Nat → Option Ob)} (he : callP A wr objs f args = some r) : ∃ N, callP (D N) wr objs f args = some r := by
 unfold callP at he
 split at he
 ·cases he
 ·rename_i args' ks rd ha
  split at he
  ·cases he
  ·rename_i os hos
   split at he
   ·cases he
   ·rename_i res os' hC
    obtain ⟨N, hN⟩ := hA _ _ _ _ hC
    refine ⟨N, ?_⟩
    unfold callP
    simp only [ha, hos, hN]
    exact he
theorem eff_fin (hD : ∀ {i j}, i ≤ j → Le (D i) (D j)) (hA : Sup D A) {st : St} {d : Option Nat} {p : POp} {r : PV × (Nat → Option Ob)} (he : eff P A st d p = some r) : ∃ N, eff P (D N) st d p = some r := by
 cases p <;> first | exact ⟨0, he⟩ | skip
 case call wr f xs => exact callP_fin hD hA he
 case gcall => exact gcallP_fin hA he
 case lend =>
  simp only [eff] at he ⊢
  split at he
  ·split at he
   ·split at he
    ·rename_i hc
     simp only [if_pos hc]
     split at he
     ·rename_i hC
      obtain ⟨N, hN⟩ := hA _ _ _ _ hC
      exact ⟨N, by rw [hN]; exact he⟩
     ·cases he
    ·cases he
   ·cases he
  ·cases he
 case gcallv =>
  simp only [eff] at he ⊢
  split at he
  ·exact gcallP_fin hA he
  ·split at he
   ·rename_i hc
    simp only [if_pos hc]; exact gcallP_fin hA he
   ·cases he
  ·cases he
 case callv wr x xs =>
  simp only [eff] at he ⊢
  split at he
  ·exact callP_fin hD hA he
  ·split at he
   ·rename_i hc
    simp only [if_pos hc]; exact callP_fin hD hA he
   ·cases he
  ·cases he
theorem effH_fin (hD : ∀ {i j}, i ≤ j → Le (D i) (D j)) (hA : Sup D A) {st : St} {o : POper} {r : PV × (Nat → Option Ob)} (he : effH P A st o = some r) : ∃ N, effH P (D N) st o = some r := by
 obtain ⟨h1, h2⟩ := effH_some he
 obtain ⟨N, hN⟩ := eff_fin hD hA h2
 refine ⟨N, ?_⟩
 unfold effH
 rw [if_pos h1]; exact hN
theorem pOp_fin (hD : ∀ {i j}, i ≤ j → Le (D i) (D j)) (hA : Sup D A) {o : POper} {st st' : St} (he : pOp P A o st = some st') : ∃ N, pOp P (D N) o st = some st' := by
 rw [pOp_act] at he
 simp only [mj] at he
 obtain ⟨r, hr, e⟩ := he
 have : ∃ N, act P (D N) o st = some r := by
  unfold act at hr ⊢
  split at hr
  ·exact effH_fin hD hA hr
  ·split at hr
   ·split at hr
    ·rename_i hb; simp only [if_pos hb]; exact effH_fin hD hA hr
    ·rename_i hb; simp only [if_neg hb]; exact ⟨0, hr⟩
   ·exact ⟨0, hr⟩
   ·cases hr
 obtain ⟨N, hN⟩ := this
 exact ⟨N, by rw [pOp_act, hN]; simpa using e⟩
theorem pOps_fin (hD : ∀ {i j}, i ≤ j → Le (D i) (D j)) (hA : Sup D A) : ∀ {os : List POper} {st st' : St}, pOps P A os st = some st' → ∃ N, pOps P (D N) os st = some st'
 | [], _, _, he => ⟨0, he⟩
 | o :: os, st, st', he => by
  simp only [pOps] at he
  split at he
  ·rename_i st1 h1
   obtain ⟨N, hN⟩ := pOp_fin hD hA h1
   obtain ⟨M, hM⟩ := pOps_fin hD hA he
   refine ⟨max N M, ?_⟩
   simp only [pOps]
   rw [pOp_mono (hD (Nat.le_max_left N M)) hN]
   exact pOps_mono (hD (Nat.le_max_right N M)) hM
  ·cases he
theorem evCode_fin (hD : ∀ {i j}, i ≤ j → Le (D i) (D j)) (hA : Sup D A) {n : Nat} : ∀ (c : PCode) {st : St} {r : PEx × St}, evCode P A n c st = some r → ∃ N, evCode P (D N) n c st = some r := by
 intro c
 induction c with
 | skip => intro st r he; exact ⟨0, he⟩
 | region keep dr ops =>
  intro st r he
  simp only [evCode] at he ⊢
  split at he
  ·cases he
  ·rename_i st1 h1
   split at he
   ·rename_i st2 h2
    obtain ⟨N, hN⟩ := pOps_fin hD hA h2
    exact ⟨N, by rw [hN]; exact he⟩
   ·cases he
 | seq a b iha ihb =>
  intro st r he
  simp only [evCode] at he ⊢
  split at he
  ·rename_i st1 h1
   obtain ⟨N, hN⟩ := iha h1
   obtain ⟨M, hM⟩ := ihb he
   refine ⟨max N M, ?_⟩
   rw [evCode_mono (hD (Nat.le_max_left N M)) (Nat.le_refl n) a hN]
   exact evCode_mono (hD (Nat.le_max_right N M)) (Nat.le_refl n) b hM
  ·rename_i hne
   obtain ⟨N, hN⟩ := iha he
   refine ⟨N, ?_⟩
   rw [hN]
   cases r with
   | mk ex st1 =>
    cases ex with
    | normal => exact absurd he (hne _)
    | _ => rfl
 | cond c a b iha ihb =>
  intro st r he
  simp only [evCode] at he ⊢
  split at he
  ·rename_i t ht
   cases t with
   | true => exact iha he
   | false => exact ihb he
  ·cases he
 | block id c ih =>
  intro st r he
  simp only [evCode] at he ⊢
  split at he
  ·rename_i id' st1 h1
   obtain ⟨N, hN⟩ := ih h1
   exact ⟨N, by rw [hN]; exact he⟩
  ·rename_i hne
   obtain ⟨N, hN⟩ := ih he
   refine ⟨N, ?_⟩
   rw [hN]
   cases r with
   | mk ex st1 =>
    cases ex with
    | exit id' => exact absurd he (hne _ _)
    | _ => rfl
 | loop c ih =>
  intro st r he
  simp only [evCode] at he ⊢
  have key : ∀ (m : Nat) (st : St) (r : PEx × St), iter (evCode P A n c) m st = some r → ∃ N, iter (evCode P (D N) n c) m st = some r := by
   intro m
   induction m with
   | zero => intro st r he; simp [iter] at he
   | succ m ihm =>
    intro st r he
    simp only [iter] at he ⊢
    split at he
    ·rename_i st1 h1
     obtain ⟨N, hN⟩ := ih h1
     obtain ⟨M, hM⟩ := ihm _ _ he
     refine ⟨max N M, ?_⟩
     rw [evCode_mono (hD (Nat.le_max_left N M)) (Nat.le_refl n) c hN]
     exact iter_mono (fun st r h => evCode_mono (hD (Nat.le_max_right N M)) (Nat.le_refl n) c h) (Nat.le_refl m) hM
    ·rename_i hne
     obtain ⟨N, hN⟩ := ih he
     refine ⟨N, ?_⟩
     rw [hN]
     cases r with
     | mk ex st1 =>
      cases ex with
      | normal => exact absurd he (hne _)
      | _ => rfl
  exact key n st r he
 | exit id => intro st r he; exact ⟨0, he⟩
 | scope c ih => intro st r he; simp only [evCode] at he ⊢; exact ih he
 | label => intro st r he; exact ⟨0, he⟩
 | ret => intro st r he; exact ⟨0, he⟩
theorem evBody_fin (hD : ∀ {i j}, i ≤ j → Le (D i) (D j)) (hA : Sup D A) {n : Nat} {pf : PFunc} {args : List PV} {os : List Ob} {r : PV × List Ob} (he : evBody P A n pf args os = some r) : ∃ N, evBody P (D N) n pf args os = some r := by
 unfold evBody at he
 split at he
 ·cases he
 ·rename_i ex st hne h1
  obtain ⟨N, hN⟩ := evCode_fin hD hA _ h1
  refine ⟨N, ?_⟩
  unfold evBody
  rw [hN]
  cases ex with
  | exit id => exact absurd rfl (hne id)
  | normal => exact he
  | ret => exact he
 ·cases he
end
abbrev Table := FuncId → Option PFunc
def lev (P : Program) (B : Oracle) (T : Table) : Nat → Oracle
 | 0 => fun f args os => match T f with
  | some _ => none
  | none => B f args os
 | n + 1 => fun f args os => match T f with
  | some pf => if args.length ≤ pf.ntmps then evBody P (lev P B T n) n pf args os else none
  | none => B f args os
theorem lev_zero (P : Program) (B : Oracle) (T : Table) (f : FuncId) (args : List PV) (os : List Ob) : lev P B T 0 f args os = match T f with | some _ => none | none => B f args os := rfl
theorem lev_succ (P : Program) (B : Oracle) (T : Table) (n : Nat) (f : FuncId) (args : List PV) (os : List Ob) : lev P B T (n + 1) f args os = match T f with | some pf => if args.length ≤ pf.ntmps then evBody P (lev P B T n) n pf args os else none | none => B f args os := rfl
theorem lev_step (P : Program) (B : Oracle) (T : Table) : ∀ n, Le (lev P B T n) (lev P B T (n + 1)) := by
 intro n
 induction n with
 | zero =>
  intro f args os r h
  simp only [lev] at h ⊢
  split at h
  ·cases h
  ·exact h
 | succ n ih =>
  intro f args os r h
  rw [lev_succ] at h ⊢
  split at h
  ·rename_i pf hpf
   split at h
   ·rename_i hl
    rw [if_pos hl]
    exact evBody_mono ih (Nat.le_succ n) h
   ·cases h
  ·exact h
theorem lev_mono (P : Program) (B : Oracle) (T : Table) {i j : Nat} (h : i ≤ j) : Le (lev P B T i) (lev P B T j) := by
 induction h with
 | refl => exact fun _ _ _ _ h => h
 | step _ ih => exact fun f a o r h => lev_step P B T _ f a o r (ih f a o r h)
open Classical in
noncomputable def all (P : Program) (B : Oracle) (T : Table) : Oracle := fun f args os => if h : ∃ r N, lev P B T N f args os = some r then some h.choose else none
theorem all_of {P : Program} {B : Oracle} {T : Table} {f : FuncId} {args : List PV} {os : List Ob} {r : PV × List Ob} {N : Nat} (h : lev P B T N f args os = some r) : all P B T f args os = some r := by
 unfold all
 have hex : ∃ r N, lev P B T N f args os = some r := ⟨r, N, h⟩
 rw [dif_pos hex]
 obtain ⟨M, hM⟩ := hex.choose_spec
 have h1 := lev_mono P B T (Nat.le_max_left N M) _ _ _ _ h
 have h2 := lev_mono P B T (Nat.le_max_right N M) _ _ _ _ hM
 rw [h1] at h2
 exact h2.symm
theorem all_sup (P : Program) (B : Oracle) (T : Table) : Sup (lev P B T) (all P B T) := by
 intro f args os r h
 unfold all at h
 split at h
 ·rename_i hex
  obtain ⟨N, hN⟩ := hex.choose_spec
  simp only [sj] at h
  exact ⟨N, by rw [hN, h]⟩
 ·cases h
theorem all_fn {P : Program} {B : Oracle} {T : Table} {f : FuncId} {pf : PFunc} (hT : T f = some pf) {n : Nat} {args : List PV} {os : List Ob} {r : PV × List Ob} (hl : args.length ≤ pf.ntmps)
  (he : evBody P (all P B T) n pf args os = some r) : all P B T f args os = some r := by
 obtain ⟨N, hN⟩ := evBody_fin (D := lev P B T) (fun h => lev_mono P B T h) (all_sup P B T) he
 refine all_of (N := max N n + 1) ?_
 rw [lev_succ, hT]
 simp only
 rw [if_pos hl]
 exact evBody_mono (lev_mono P B T (Nat.le_max_left N n)) (Nat.le_max_right N n) hN
theorem all_meets {P : Program} {B : Oracle} {T : Table} (hm : P.follows .mixedOrders = true) (hB : Meets P B) (hT : ∀ f pf, T f = some pf → ∃ fn A, P.funcs[f]? = some fn ∧ compFn P A fn = some pf) : Meets P (all P B T) := by
 have lv : ∀ n, Meets P (lev P B T n) := by
  intro n
  induction n with
  | zero =>
   refine hB.of_le (fun f args os r h => ?_)
   rw [lev_zero] at h
   split at h
   ·cases h
   ·exact h
  | succ n ih =>
   intro f args os res os' h
   rw [lev_succ] at h
   split at h
   ·rename_i pf hpf
    obtain ⟨fn, A, h1, h2⟩ := hT f pf hpf
    have hb := body_ok ih hm A n h1 h2
    split at h
    ·rename_i hl
     exact hb f args os res os' (by show (if f = f ∧ args.length ≤ pf.ntmps then evBody P (lev P B T n) n pf args os else none) = _; rw [if_pos ⟨rfl, hl⟩]; exact h)
    ·cases h
   ·exact hB f args os res os' h
 intro f args os res os' h
 obtain ⟨N, hN⟩ := all_sup P B T f args os _ h
 exact lv N f args os res os' hN
end Go.Rx
