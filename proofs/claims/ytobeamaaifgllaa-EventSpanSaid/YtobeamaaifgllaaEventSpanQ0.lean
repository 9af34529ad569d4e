/- No condition. -/
import Derived.Test.YtobeamaaifgllaaEventSpanV
import Derived.Test.YtobeamaaifgllaaEventSpanP0
namespace Go.Proofs.Ytobeamaaifgllaa
open Go Go.Rx
set_option maxRecDepth 100000
set_option linter.unusedVariables false
set_option linter.unusedSimpArgs false
set_option linter.unnecessarySimpa false
set_option linter.unnecessarySimpa false
theorem Point.eqb_iff (x y : Point) : Point.eqb x y = true ↔ x = y := by
 cases x; cases y; simp [Point.eqb]
theorem Field.eqb_iff (x y : Field) : Field.eqb x y = true ↔ x = y := by
 cases x; cases y; simp [Field.eqb, ba_beq]
theorem A4_Field.eqb_iff (x y : A4 Field) : A4_Field.eqb x y = true ↔ x = y := by
 cases x; cases y; simp [A4_Field.eqb, Field.eqb_iff]
theorem Thing.eqb_iff (x y : Thing) : Thing.eqb x y = true ↔ x = y := by
 cases x; cases y; simp [Thing.eqb, Point.eqb_iff, A4_Field.eqb_iff]
theorem Delta.eqb_iff (x y : Delta) : Delta.eqb x y = true ↔ x = y := by
 cases x; cases y; simp [Delta.eqb, Point.eqb_iff, A4_Field.eqb_iff]
theorem Thing.eqb_refl (x : Thing) : Thing.eqb x x = true := (Thing.eqb_iff x x).2 rfl
def noP : Point := ⟨0, 0⟩
def noF : Field := ⟨0, ByteArray.empty⟩
def hs (m i : Int) : Bool := bitsI .and .u8 (shrI .u8 m i) 1 == 1
theorem has0 (n : Nat) (m : Int) : F99 n m 0 = some (hs m 1) := rfl
theorem has1 (n : Nat) (m : Int) : F99 n m 1 = some (hs m 2) := rfl
theorem has2 (n : Nat) (m : Int) : F99 n m 2 = some (hs m 3) := rfl
theorem has3 (n : Nat) (m : Int) : F99 n m 3 = some (hs m 4) := rfl
def isF (f : Field) : Bool := if f.N == 0 then decide ((f.Text.size : Int) ≤ 12) else if f.Text.toList == ByteArray.empty.toList then decide ((f.Text.size : Int) ≤ 12) else false
theorem isF_eq (n : Nat) (f : Field) : F70 n f = some (isF f) := by
 unfold F70 isF
 split
 ·rfl
 ·split <;> rfl
def okF (f : Field) (e : Bool) : Bool := isF f && (e || Field.eqb f noF)
def on (p : Point) : Bool := if decide ((0 : Int) ≤ p.X) then if decide (p.X < 64) then if decide ((0 : Int) ≤ p.Y) then decide (p.Y < 64) else false else false else false
theorem on_eq (n : Nat) (p : Point) : F67 n p = some (on p) := by
 unfold F67 on
 split
 ·split
  ·split <;> rfl
  ·rfl
 ·rfl
def a1 (d : Delta) : Bool := (bitsI .and .u8 d.Mask 1) != 0
def fl4 (d : Delta) : Bool := okF d.F.a0 (hs d.Mask 1) && (okF d.F.a1 (hs d.Mask 2) && (okF d.F.a2 (hs d.Mask 3) && okF d.F.a3 (hs d.Mask 4)))
def isD (d : Delta) : Bool := !(decide (d.ID < 0)) && (!(decide ((1000000 : Int) < d.ID)) && (!(d.Mask == 0) && (!(decide ((31 : Int) < d.Mask)) && ((a1 d || Point.eqb d.At noP) && (on d.At && fl4 d)))))
theorem isd_fin (f : Field) (e : Bool) (o : Option Bool) (b : Bool) (ho : o = some b) : (if (!(isF f)) = true then some false else if (!e) = true then if (!(Field.eqb f ⟨0, ByteArray.empty⟩)) = true then some false else o else o) = some (okF f e && b) := by
 subst ho
 have : Field.eqb f ⟨0, ByteArray.empty⟩ = Field.eqb f noF := rfl
 rw [this]
 unfold okF
 cases isF f <;> cases e <;> cases Field.eqb f noF <;> simp
theorem isd_l (n : Nat) (d : Delta) : F77_j3 n d = some (fl4 d) := by
 have s3 : F77_u12 n d = some (okF d.F.a3 (hs d.Mask 4) && true) := by
  unfold F77_u12
  simp only [isF_eq, has3, Option.bind_some]
  exact isd_fin _ _ _ _ rfl
 have s2 : F77_u9 n d = some (okF d.F.a2 (hs d.Mask 3) && (okF d.F.a3 (hs d.Mask 4) && true)) := by
  unfold F77_u9
  simp only [isF_eq, has2, Option.bind_some]
  exact isd_fin _ _ _ _ s3
 have s1 : F77_u6 n d = some (okF d.F.a1 (hs d.Mask 2) && (okF d.F.a2 (hs d.Mask 3) && (okF d.F.a3 (hs d.Mask 4) && true))) := by
  unfold F77_u6
  simp only [isF_eq, has1, Option.bind_some]
  exact isd_fin _ _ _ _ s2
 have s0 : F77_j3 n d = some (okF d.F.a0 (hs d.Mask 1) && (okF d.F.a1 (hs d.Mask 2) && (okF d.F.a2 (hs d.Mask 3) && (okF d.F.a3 (hs d.Mask 4) && true)))) := by
  unfold F77_j3
  simp only [isF_eq, has0, Option.bind_some]
  exact isd_fin _ _ _ _ s1
 rw [s0]
 simp [fl4]
theorem isD_eq (n : Nat) (d : Delta) : F77 n d = some (isD d) := by
 unfold F77
 have hl := isd_l n d
 have ep : Point.eqb d.At (Point.mk 0 0) = Point.eqb d.At noP := rfl
 simp only [on_eq, Option.bind_some, hl, isD, a1, ep, bne]
 by_cases h1 : d.ID < 0
 ·simp [h1]
 ·by_cases h2 : 1000000 < d.ID
  ·simp [h1, h2]
  ·by_cases h3 : d.Mask = 0
   ·simp [h1, h2, h3]
   ·by_cases h4 : 31 < d.Mask
    ·simp [h1, h2, h3, h4]
    ·cases h5 : (bitsI .and .u8 d.Mask 1 == 0) <;> cases h6 : Point.eqb d.At noP <;> cases h7 : on d.At <;> simp [h1, h2, h3, h4, h5, h6, h7]
def ch (x : Int) : Int := bitsI .or .u8 (IntKind.wrap .u8 x) 128
def putL : Nat → Int → List Int
 | 0, _ => []
 | k + 1, x => if 128 ≤ x then ch x :: putL k (x / 128) else [IntKind.wrap .u8 x]
def pt (x : Int) : ByteArray := mkStr (putL 10 x)
def pu (x : Int) : ByteArray := pt (IntKind.wrap .u64 x)
def head (d : Delta) : ByteArray := if a1 d then (pu d.ID ++ pu d.Mask) ++ (pu d.At.X ++ pu d.At.Y) else pu d.ID ++ pu d.Mask
theorem ixg {α : Type} (l : List α) (i : Nat) (h : i < l.length) : ix l (i : Int) = some l[i] := by
 simp [ix, h]
theorem dsucc {i : Nat} (h : i < maxLen) : IntKind.wrap .i64 ((i : Int) + 1) = ((i + 1 : Nat) : Int) := by
 simp only [maxLen] at h
 simp [IntKind.wrap, IntKind.bits, IntKind.signed]; omega
theorem lt_dec {i n : Nat} (h : i < n) : decide ((i : Int) < (n : Int)) = true := by simp; omega
theorem ge_dec {i n : Nat} (h : ¬ i < n) : decide ((i : Int) < (n : Int)) = false := by simp; omega
theorem dropS {α : Type} (l : List α) (i : Nat) (h : i < l.length) : l.drop i = l[i] :: l.drop (i + 1) := (List.getElem_cons_drop (h := h)).symm
def isTh (t : Thing) : Bool := decide (0 ≤ t.ID) && (decide (t.ID ≤ 1000000) && (on t.At && (isF t.F.a0 && (isF t.F.a1 && (isF t.F.a2 && isF t.F.a3)))))
theorem not_eq (n : Nat) (f : Field) : F69 n f = some (!(isF f)) := by
 unfold F69
 simp only [isF_eq, Option.bind_some]
theorem is_eq (n : Nat) (t : Thing) : F24 n t = some (isTh t) := by
 have hz : ∀ a b c d : Field, F68s0 n [a, b, c, d] = some (!(isF a && (isF b && (isF c && isF d)))) := by
  intro a b c d
  unfold F68s0 F103s0
  unfold F103s0_l4
  have w1 : IntKind.wrap .i64 ((0 : Int) + 1) = 1 := by decide
  have w2 : IntKind.wrap .i64 ((1 : Int) + 1) = 2 := by decide
  have w3 : IntKind.wrap .i64 ((2 : Int) + 1) = 3 := by decide
  have w4 : IntKind.wrap .i64 ((3 : Int) + 1) = 4 := by decide
  have x0 : ix [a, b, c, d] 0 = some a := rfl
  have x1 : ix [a, b, c, d] 1 = some b := rfl
  have x2 : ix [a, b, c, d] 2 = some c := rfl
  have x3 : ix [a, b, c, d] 3 = some d := rfl
  have l0 : decide ((0 : Int) < (([a, b, c, d] : List Field).length : Int)) = true := rfl
  have l1 : decide ((1 : Int) < (([a, b, c, d] : List Field).length : Int)) = true := rfl
  have l2 : decide ((2 : Int) < (([a, b, c, d] : List Field).length : Int)) = true := rfl
  have l3 : decide ((3 : Int) < (([a, b, c, d] : List Field).length : Int)) = true := rfl
  have l4 : decide ((4 : Int) < (([a, b, c, d] : List Field).length : Int)) = false := rfl
  rw [if_pos l0, x0]
  simp only [Option.bind_some, not_eq]
  cases isF a with
  | false => rfl
  | true =>
   simp only [Bool.not_true, Bool.false_eq_true, if_false, Bool.true_and]
   rw [w1]
   unfold F103s0_l4
   rw [if_pos l1, x1]
   simp only [Option.bind_some, not_eq]
   cases isF b with
   | false => rfl
   | true =>
    simp only [Bool.not_true, Bool.false_eq_true, if_false, Bool.true_and]
    rw [w2]
    unfold F103s0_l4
    rw [if_pos l2, x2]
    simp only [Option.bind_some, not_eq]
    cases isF c with
    | false => rfl
    | true =>
     simp only [Bool.not_true, Bool.false_eq_true, if_false, Bool.true_and]
     rw [w3]
     unfold F103s0_l4
     rw [if_pos l3, x3]
     simp only [Option.bind_some, not_eq]
     cases isF d with
     | false => rfl
     | true =>
      simp only [Bool.not_true, Bool.false_eq_true, if_false]
      rw [w4]
      unfold F103s0_l4
      rw [if_neg (by rw [l4]; decide)]
      rfl
 unfold F24 isTh
 rw [hz]
 simp only [on_eq, Option.bind_some, Bool.not_not]
 by_cases h1 : 0 ≤ t.ID
 ·by_cases h2 : t.ID ≤ 1000000
  ·cases h3 : on t.At <;> simp [h1, h2]
  ·simp [h1, h2]
 ·simp [h1]
def noT : Thing := ⟨0, ⟨0, 0⟩, ⟨noF, noF, noF, noF⟩⟩
def noD : Delta := ⟨0, 0, ⟨0, 0⟩, ⟨noF, noF, noF, noF⟩⟩
theorem Event.eqb_iff (x y : Event) : Event.eqb x y = true ↔ x = y := by
 cases x; cases y; simp [Event.eqb, Thing.eqb_iff, Delta.eqb_iff]
theorem Event.eqb_refl (x : Event) : Event.eqb x x = true := (Event.eqb_iff x x).2 rfl
theorem Delta.eqb_refl (x : Delta) : Delta.eqb x x = true := (Delta.eqb_iff x x).2 rfl
def isEv (e : Event) : Bool :=
 if e.Kind == 1 then isTh e.Thing && (e.ID == e.Thing.ID && Delta.eqb e.Delta noD)
 else if e.Kind == 2 then isD e.Delta && (e.ID == e.Delta.ID && Thing.eqb e.Thing noT)
 else if e.Kind == 3 then decide (0 ≤ e.ID) && (decide (e.ID ≤ 1000000) && (Thing.eqb e.Thing noT && Delta.eqb e.Delta noD))
 else false
theorem ite_bool (a b : Bool) : (if a = true then some b else some false) = some (a && b) := by cases a <;> rfl
theorem ev_is (n : Nat) (e : Event) : F39 n e = some (isEv e) := by
 unfold F39 isEv
 simp only [is_eq, isD_eq, Option.bind_some, ite_bool]
 by_cases h1 : (e.Kind == 1) = true
 ·rw [if_pos h1, if_pos h1]; rfl
 ·rw [if_neg h1, if_neg h1]
  by_cases h2 : (e.Kind == 2) = true
  ·rw [if_pos h2, if_pos h2]; rfl
  ·rw [if_neg h2, if_neg h2]
   by_cases h3 : (e.Kind == 3) = true
   ·rw [if_pos h3, h3, Bool.true_and]; rfl
   ·have h4 : (e.Kind == 3) = false := by simpa using h3
    rw [if_neg h3, h4, Bool.false_and]
def app (t : Thing) (d : Delta) : Thing := ⟨t.ID, if a1 d then d.At else t.At, ⟨if hs d.Mask 1 then d.F.a0 else t.F.a0, if hs d.Mask 2 then d.F.a1 else t.F.a1, if hs d.Mask 3 then d.F.a2 else t.F.a2, if hs d.Mask 4 then d.F.a3 else t.F.a3⟩⟩
theorem app_eq (n : Nat) (t : Thing) (d : Delta) : F88 n t d = some (app t d) := by
 unfold F88 F88_j2 F88_u5 F88_u8 F88_u11 F88_u14 app a1
 simp only [has0, has1, has2, has3, Option.bind_some]
 generalize ((bitsI .and .u8 d.Mask 1) != 0) = eA
 generalize hs d.Mask 1 = e0
 generalize hs d.Mask 2 = e1
 generalize hs d.Mask 3 = e2
 generalize hs d.Mask 4 = e3
 cases eA <;> cases e0 <;> cases e1 <;> cases e2 <;> cases e3 <;> rfl
theorem app_is {t : Thing} {d : Delta} (ht : isTh t = true) (hd : isD d = true) : isTh (app t d) = true := by
 have okf : ∀ (f g : Field) (e : Bool), isF g = true → okF f e = true → isF (if e = true then f else g) = true := by
  intro f g e h h'
  cases e with
  | false => exact h
  | true => simp only [okF, Bool.and_eq_true] at h'; exact h'.1
 simp only [isD, fl4, Bool.and_eq_true] at hd
 simp only [isTh, Bool.and_eq_true] at ht ⊢
 obtain ⟨_, _, _, _, _, hon, h0, h1, h2, h3⟩ := hd
 obtain ⟨t0, t1, t2, t3, t4, t5, t6⟩ := ht
 refine ⟨t0, t1, ?_, okf _ _ _ t3 h0, okf _ _ _ t4 h1, okf _ _ _ t5 h2, okf _ _ _ t6 h3⟩
 show on (if a1 d = true then d.At else t.At) = true
 split
 ·exact hon
 ·exact t2
def Ris (l : List Thing) : Prop := l.Pairwise fun a b => a.ID < b.ID
def lo (l : List Thing) (x : Int) : List Thing := l.takeWhile fun t => decide (t.ID < x)
def hi (l : List Thing) (x : Int) : List Thing := l.dropWhile fun t => decide (t.ID < x)
def has (b : List Thing) (x : Int) : Bool := match b with
 | [] => false
 | t :: _ => t.ID == x
theorem lohi (l : List Thing) (x : Int) : lo l x ++ hi l x = l := List.takeWhile_append_dropWhile
theorem lo_lt (l : List Thing) (x : Int) : ∀ t ∈ lo l x, t.ID < x := by
 induction l with
 | nil => intro t h; cases h
 | cons u l ih =>
  intro t h
  simp only [lo, List.takeWhile_cons] at h
  split at h
  ·rename_i hu
   cases h with
   | head => exact of_decide_eq_true hu
   | tail _ h' => exact ih t h'
  ·cases h
theorem hi_ge {l : List Thing} (hl : Ris l) (x : Int) : ∀ t ∈ hi l x, x ≤ t.ID := by
 induction l with
 | nil => intro t h; cases h
 | cons u l ih =>
  intro t h
  cases hl with
  | cons hu hr =>
   simp only [hi, List.dropWhile_cons] at h
   split at h
   ·exact ih hr t h
   ·rename_i hx
    have hx' : x ≤ u.ID := by simp at hx; exact hx
    cases h with
    | head => exact hx'
    | tail _ h' => have := hu t h'; omega
def stp (l : List Thing) (e : Event) : List Thing × Bool :=
 if isEv e = false then (l, false)
 else if has (hi l e.ID) e.ID == (e.Kind == 1) then (l, false)
 else if e.Kind == 1 then (lo l e.ID ++ e.Thing :: hi l e.ID, true)
 else if e.Kind == 2 then (lo l e.ID ++ (match hi l e.ID with | [] => [] | u :: b => app u e.Delta :: b), true)
 else (lo l e.ID ++ (hi l e.ID).tail, true)
theorem ris_ins {a b : List Thing} {t : Thing} (h : Ris (a ++ b)) (ha : ∀ u ∈ a, u.ID < t.ID) (hb : ∀ u ∈ b, t.ID < u.ID) : Ris (a ++ t :: b) := by
 unfold Ris at *
 rw [List.pairwise_append] at h ⊢
 refine ⟨h.1, List.pairwise_cons.2 ⟨hb, h.2.1⟩, ?_⟩
 intro u hu v hv
 cases hv with
 | head => exact ha u hu
 | tail _ hv' => exact h.2.2 u hu v hv'
theorem ris_del {a b : List Thing} {t : Thing} (h : Ris (a ++ t :: b)) : Ris (a ++ b) := by
 unfold Ris at *
 rw [List.pairwise_append] at h ⊢
 exact ⟨h.1, (List.pairwise_cons.1 h.2.1).2, fun u hu v hv => h.2.2 u hu v (List.mem_cons_of_mem _ hv)⟩
theorem ris_set {a b : List Thing} {t u : Thing} (h : Ris (a ++ t :: b)) (hi : u.ID = t.ID) : Ris (a ++ u :: b) := by
 unfold Ris at *
 rw [List.pairwise_append] at h ⊢
 refine ⟨h.1, List.pairwise_cons.2 ⟨fun v hv => ?_, (List.pairwise_cons.1 h.2.1).2⟩, ?_⟩
 ·rw [hi]; exact (List.pairwise_cons.1 h.2.1).1 v hv
 ·intro v hv w hw
  cases hw with
  | head => rw [hi]; exact h.2.2 v hv t List.mem_cons_self
  | tail _ hw' => exact h.2.2 v hv w (List.mem_cons_of_mem _ hw')
theorem has_no {b : List Thing} {x : Int} (hr : Ris b) (hg : ∀ t ∈ b, x ≤ t.ID) (h : has b x = false) : ∀ t ∈ b, x < t.ID := by
 cases b with
 | nil => intro t h; cases h
 | cons u b =>
  have hu : u.ID ≠ x := by simpa [has] using h
  have h1 := hg u List.mem_cons_self
  intro t ht
  cases ht with
  | head => omega
  | tail _ ht' => have := (List.pairwise_cons.1 hr).1 t ht'; omega
theorem has_yes {b : List Thing} {x : Int} (h : has b x = true) : ∃ u b', b = u :: b' ∧ u.ID = x := by
 cases b with
 | nil => cases h
 | cons u b => exact ⟨u, b, rfl, by simpa [has] using h⟩
theorem ris_hi {l : List Thing} (h : Ris l) (x : Int) : Ris (hi l x) := by
 have := h; rw [← lohi l x] at this; exact (List.pairwise_append.1 this).2.1
theorem isEv_id {e : Event} (h : isEv e = true) (h1 : (e.Kind == 1) = true) : isTh e.Thing = true ∧ e.ID = e.Thing.ID := by
 unfold isEv at h
 rw [if_pos h1] at h
 simp only [Bool.and_eq_true, beq_iff_eq] at h
 exact ⟨h.1, h.2.1⟩
theorem isEv_d {e : Event} (h : isEv e = true) (h1 : (e.Kind == 1) = false) (h2 : (e.Kind == 2) = true) : isD e.Delta = true := by
 unfold isEv at h
 rw [h1, h2] at h
 simp only [Bool.false_eq_true, if_false, if_true, Bool.and_eq_true] at h
 exact h.1
theorem stp_good {l : List Thing} (h : Ris l) (e : Event) : Ris (stp l e).1 ∧ (stp l e).1.length ≤ l.length + 1 ∧ ((∀ t ∈ l, isTh t = true) → ∀ t ∈ (stp l e).1, isTh t = true) := by
 have hl := lohi l e.ID
 have hlo := lo_lt l e.ID
 have hge := hi_ge h e.ID
 have hrh := ris_hi h e.ID
 have hlen : l.length = (lo l e.ID).length + (hi l e.ID).length := by rw [← List.length_append, hl]
 unfold stp
 cases hE : isEv e with
 | false => exact ⟨h, by simp, fun q => q⟩
 | true =>
  simp only [Bool.true_eq_false, if_false]
  cases hh : has (hi l e.ID) e.ID with
  | false =>
   cases h1 : (e.Kind == 1) with
   | false => exact ⟨h, by simp, fun q => q⟩
   | true =>
    obtain ⟨hT, hid⟩ := isEv_id hE h1
    simp only [Bool.false_beq, Bool.not_true, Bool.false_eq_true, if_false, if_true]
    refine ⟨ris_ins (by rw [hl]; exact h) (by rw [← hid]; exact hlo) (by rw [← hid]; exact has_no hrh hge hh), by simp only [List.length_append, List.length_cons]; omega, fun q t ht => ?_⟩
    rw [List.mem_append, List.mem_cons] at ht
    rcases ht with ht | rfl | ht
    ·exact q t (by rw [← hl]; exact List.mem_append_left _ ht)
    ·exact hT
    ·exact q t (by rw [← hl]; exact List.mem_append_right _ ht)
  | true =>
   cases h1 : (e.Kind == 1) with
   | true => exact ⟨h, by simp, fun q => q⟩
   | false =>
    simp only [Bool.true_beq, Bool.false_eq_true, if_false]
    obtain ⟨u, b, hb, hu⟩ := has_yes hh
    rw [hb] at hlen hl ⊢
    have hR : Ris (lo l e.ID ++ u :: b) := by rw [hl]; exact h
    have hin : ∀ t, t ∈ lo l e.ID ∨ t = u ∨ t ∈ b → t ∈ l := by
     intro t ht; rw [← hl, List.mem_append, List.mem_cons]; exact ht
    simp only [List.length_cons] at hlen
    cases h2 : (e.Kind == 2) with
    | true =>
     simp only [if_true]
     refine ⟨ris_set hR rfl, by simp only [List.length_append, List.length_cons]; omega, fun q t ht => ?_⟩
     rw [List.mem_append, List.mem_cons] at ht
     rcases ht with ht | rfl | ht
     ·exact q t (hin t (.inl ht))
     ·exact app_is (q u (hin u (.inr (.inl rfl)))) (isEv_d hE h1 h2)
     ·exact q t (hin t (.inr (.inr ht)))
    | false =>
     simp only [Bool.false_eq_true, if_false, List.tail_cons]
     refine ⟨ris_del hR, by simp only [List.length_append]; omega, fun q t ht => ?_⟩
     rw [List.mem_append] at ht
     rcases ht with ht | ht
     ·exact q t (hin t (.inl ht))
     ·exact q t (hin t (.inr (.inr ht)))
theorem cmp_eq (n : Nat) (t : Thing) (x : Int) : F85 n t x = some (if t.ID < x then -1 else if x < t.ID then 1 else 0) := by
 unfold F85 F86 F111
 simp only [Option.bind_some, bne_self_eq_false, Bool.false_eq_true, if_false, decide_eq_true_eq]
 split
 ·rfl
 ·split <;> rfl
theorem shr1' (x : Int) : shrI .u64 x 1 = x / 2 := by
 unfold shrI; rw [Int.fdiv_eq_ediv_of_nonneg _ (by decide)]; rfl
theorem half {i j : Nat} (h : i + j < 1000000) : IntKind.wrap .i64 (shrI .u64 (IntKind.wrap .u64 (IntKind.wrap .i64 ((i : Int) + (j : Int)))) 1) = (((i + j) / 2 : Nat) : Int) := by
 have e1 : IntKind.wrap .i64 ((i : Int) + (j : Int)) = ((i + j : Nat) : Int) := by simp [IntKind.wrap, IntKind.bits, IntKind.signed]; omega
 have e2 : IntKind.wrap .u64 ((i + j : Nat) : Int) = ((i + j : Nat) : Int) := by simp [IntKind.wrap, IntKind.bits, IntKind.signed]; omega
 have e3 : shrI .u64 ((i + j : Nat) : Int) 1 = (((i + j) / 2 : Nat) : Int) := by
  rw [shr1']; omega
 rw [e1, e2, e3]
 simp [IntKind.wrap, IntKind.bits, IntKind.signed]; omega
theorem bs_l (n : Nat) (a b : List Thing) (x : Int) (ha : ∀ t ∈ a, t.ID < x) (hb : ∀ t ∈ b, x ≤ t.ID) (hlen : a.length + b.length ≤ 100000) : ∀ (m i j : Nat), i ≤ a.length → a.length ≤ j → j ≤ a.length + b.length → j - i < m →
  F84s0_l7 n (a ++ b) x m (i : Int) (j : Int) = some ((a.length : Int), has b x) := by
 intro m
 induction m with
 | zero => intro i j _ _ _ h; omega
 | succ m ih =>
  intro i j h1 h2 h3 hm
  unfold F84s0_l7
  have hL : (a ++ b).length = a.length + b.length := List.length_append
  by_cases hij : i < j
  ·rw [if_pos (lt_dec hij), half (by omega), ixg (a ++ b) ((i + j) / 2) (by omega)]
   simp only [Option.bind_some, cmp_eq]
   by_cases hq : (i + j) / 2 < a.length
   ·have hlt : ((a ++ b)[(i + j) / 2]'(by omega)).ID < x := by rw [List.getElem_append_left hq]; exact ha _ (List.getElem_mem _)
    rw [if_pos hlt, if_pos (by decide), dsucc (by simp only [maxLen]; omega)]
    exact ih ((i + j) / 2 + 1) j (by omega) h2 h3 (by omega)
   ·have hge : x ≤ ((a ++ b)[(i + j) / 2]'(by omega)).ID := by rw [List.getElem_append_right (by omega)]; exact hb _ (List.getElem_mem _)
    have hno : ¬ (decide ((if ((a ++ b)[(i + j) / 2]'(by omega)).ID < x then (-1 : Int) else if x < ((a ++ b)[(i + j) / 2]'(by omega)).ID then 1 else 0) < 0) = true) := by
     rw [if_neg (by omega)]; split <;> decide
    rw [if_neg hno]
    exact ih i ((i + j) / 2) h1 (by omega) (by omega) (by omega)
  ·have hi' : i = a.length := by omega
   subst hi'
   rw [if_neg (by simp; omega)]
   cases b with
   | nil =>
    simp only [List.length_nil, Nat.add_zero] at hL h3
    rw [if_neg (by rw [hL]; simp)]
    rfl
   | cons u b =>
    rw [if_pos (by rw [hL]; simp; omega), ixg (a ++ u :: b) a.length (by rw [hL]; simp)]
    simp only [Option.bind_some, cmp_eq]
    have hg : (a ++ u :: b)[a.length]'(by rw [hL]; simp) = u := by simp
    rw [hg]
    have hu := hb u List.mem_cons_self
    rw [if_neg (by omega)]
    simp only [has]
    by_cases he : u.ID = x
    ·rw [he, if_neg (by omega)]; simp
    ·rw [if_pos (by omega)]
     simp [he]
theorem bs_eq {n : Nat} {l : List Thing} (hr : Ris l) (hl : l.length ≤ 100000) (hn : l.length ≤ n) (x : Int) : F84s0 n l x = some (((lo l x).length : Int), has (hi l x) x) := by
 have h := bs_l n (lo l x) (hi l x) x (lo_lt l x) (hi_ge hr x) (by rw [← List.length_append, lohi]; exact hl) (n + 8) 0 l.length (by omega) (by have := congrArg List.length (lohi l x); rw [List.length_append] at this; omega) (by rw [← List.length_append, lohi]; exact Nat.le_refl _) (by omega)
 rw [lohi] at h
 exact h
theorem clone_eq {l : List Thing} (hl : l.length ≤ 100000) : cloneL l = some l := by
 unfold cloneL; rw [if_pos (by omega)]
theorem step_eq {n : Nat} {l : List Thing} (hr : Ris l) (hl : l.length ≤ 100000) (hn : l.length ≤ n) (e : Event) : F51 n l e = some (stp l e) := by
 unfold F51 stp
 rw [bs_eq hr hl hn, ev_is, clone_eq hl]
 have hL := lohi l e.ID
 have hlen : l.length = (lo l e.ID).length + (hi l e.ID).length := by rw [← List.length_append, hL]
 have htk : l.take (lo l e.ID).length = lo l e.ID := by
  have := List.take_left' (l₁ := lo l e.ID) (l₂ := hi l e.ID) rfl
  rw [hL] at this; exact this
 have hdk : l.drop (lo l e.ID).length = hi l e.ID := by
  have := List.drop_left' (l₁ := lo l e.ID) (l₂ := hi l e.ID) rfl
  rw [hL] at this; exact this
 simp only [Option.bind_some]
 cases hE : isEv e with
 | false => rfl
 | true =>
  simp only [Bool.not_true, Bool.false_eq_true, Bool.true_eq_false, if_false]
  cases hh : has (hi l e.ID) e.ID with
  | false =>
   cases h1 : (e.Kind == 1) with
   | false => rfl
   | true =>
    simp only [Bool.false_beq, Bool.not_true, Bool.false_eq_true, if_false, if_true]
    unfold insL
    rw [if_pos ⟨by omega, by omega, by omega⟩]
    simp only [Int.toNat_natCast, Option.bind_some, htk, hdk]
  | true =>
   cases h1 : (e.Kind == 1) with
   | true => rfl
   | false =>
    simp only [Bool.true_beq, Bool.false_eq_true, if_false]
    obtain ⟨u, b, hb, hu⟩ := has_yes hh
    rw [hb] at hlen hL hdk ⊢
    simp only [List.length_cons] at hlen
    have hk : (lo l e.ID).length < l.length := by omega
    have hget : l[(lo l e.ID).length]'hk = u := by
     have h0 := congrArg List.head? hdk
     rw [List.head?_drop, List.head?_cons, List.getElem?_eq_getElem hk] at h0
     exact Option.some.inj h0
    cases h2 : (e.Kind == 2) with
    | true =>
     simp only [if_true]
     rw [ixg l _ hk, hget]
     simp only [Option.bind_some, app_eq, Int.toNat_natCast]
     have hset : l.set (lo l e.ID).length (app u e.Delta) = lo l e.ID ++ app u e.Delta :: b := by
      conv => lhs; arg 1; rw [← hL]
      rw [List.set_append_right _ _ (Nat.le_refl _), Nat.sub_self]
      rfl
     rw [hset]
    | false =>
     simp only [Bool.false_eq_true, if_false]
     rw [dsucc (by simp only [maxLen]; omega)]
     unfold delL
     rw [if_pos ⟨by omega, by omega, by omega, by omega⟩]
     simp only [Int.toNat_natCast, Option.bind_some, htk]
     have hd1 : l.drop ((lo l e.ID).length + 1) = b := by rw [← List.drop_drop, hdk]; rfl
     rw [hd1]
     rfl
def fld (l0 : List Thing) : List Thing → List Event → List Thing × Bool
 | l, [] => (l, true)
 | l, e :: es => if (stp l e).2 then fld l0 (stp l e).1 es else (l0, false)
theorem fold_l {n : Nat} {a0 : List Thing} (h0 : a0.length ≤ 1000) (es : List Event) (hes : es.length ≤ 5000) (hn : 10000 ≤ n) : ∀ (m i : Nat) (l : List Thing), i ≤ es.length → es.length - i < m → Ris l → l.length + (es.length - i) ≤ 10000 →
  F40_l11 n a0 es m l true (i : Int) = some (fld a0 l (es.drop i)) := by
 intro m
 induction m with
 | zero => intro i l _ h; omega
 | succ m ih =>
  intro i l hi hm hr hl
  unfold F40_l11
  by_cases h : i < es.length
  ·rw [if_pos (lt_dec h), ixg es i h, Option.bind_some, step_eq hr (by omega) (by omega), Option.bind_some, dropS es i h, fld]
   obtain ⟨g1, g2, _⟩ := stp_good hr es[i]
   cases hb : (stp l es[i]).2 with
   | true =>
    simp only [Bool.not_true, Bool.false_eq_true, if_false, if_true]
    rw [dsucc (by simp only [maxLen]; omega)]
    exact ih (i + 1) _ (by omega) (by omega) g1 (by omega)
   | false =>
    simp only [Bool.not_false, if_true, Bool.false_eq_true, if_false]
    unfold F40_j16
    simp only [Bool.not_false, if_true]
    rw [clone_eq (by omega)]
    rfl
  ·rw [if_neg (by rw [ge_dec h]; decide), List.drop_of_length_le (by omega), fld]
   rfl
theorem fold_eq {n : Nat} {l : List Thing} (es : List Event) (h0 : l.length ≤ 1000) (hes : es.length ≤ 5000) (hn : 10000 ≤ n) (hr : Ris l) : F40 n l es = some (fld l l es) := by
 unfold F40
 rw [clone_eq (by omega)]
 exact fold_l h0 es hes hn (n + 8) 0 l (by omega) (by omega) hr (by omega)
abbrev fN : A4 Field := A4.mk (Field.mk 0 ByteArray.empty) (Field.mk 0 ByteArray.empty) (Field.mk 0 ByteArray.empty) (Field.mk 0 ByteArray.empty)
abbrev tN : Thing := Thing.mk 0 (Point.mk 0 0) fN
abbrev dN : Delta := Delta.mk 0 0 (Point.mk 0 0) fN
abbrev tP (k : Int) (p : Point) : Thing := Thing.mk k p fN
abbrev eIn (k : Int) : Event := Event.mk 1 k (tP k (Point.mk 0 0)) dN
abbrev eUp (k x : Int) : Event := Event.mk 2 k tN (Delta.mk k 1 (Point.mk x 0) fN)
abbrev eOut (k : Int) : Event := Event.mk 3 k tN dN
theorem on_x {x : Int} (h : 0 ≤ x ∧ x < 64) : on ⟨x, 0⟩ = true := by
 unfold on; simp [h.1, h.2]
theorem isF_N : isF (Field.mk 0 ByteArray.empty) = true := by unfold isF; simp
theorem in_is {k : Int} (h : 0 ≤ k ∧ k ≤ 255) : isEv (eIn k) = true := by
 have h2 : k ≤ 1000000 := by omega
 unfold isEv isTh
 simp [h.1, h2, on_x, isF_N, noD, noF, Delta.eqb_refl]
theorem up_is {k x : Int} (h : 0 ≤ k ∧ k ≤ 255) (hx : 0 ≤ x ∧ x < 64) : isEv (eUp k x) = true := by
 have h2 : isD (Delta.mk k 1 (Point.mk x 0) fN) = true := by
  have ha : a1 (Delta.mk k 1 (Point.mk x 0) fN) = true := by
   unfold a1; show (bitsI .and .u8 1 1 != 0) = true; decide
  have hf : fl4 (Delta.mk k 1 (Point.mk x 0) fN) = true := by
   have hq : ∀ b, okF (Field.mk 0 ByteArray.empty) b = true := fun b => by
    unfold okF; rw [isF_N, show Field.eqb (Field.mk 0 ByteArray.empty) noF = true from (Field.eqb_iff _ _).2 rfl]; simp
   simp only [fl4, hq, Bool.and_self]
  have h3 : ¬ k < 0 := by omega
  have h4 : ¬ 1000000 < k := by omega
  unfold isD
  simp [ha, hf, on_x hx, h3, h4]
 unfold isEv
 rw [if_neg (show ¬ ((2 : Int) == 1) = true by decide), if_pos (show ((2 : Int) == 2) = true by decide), h2, show Thing.eqb tN noT = true from (Thing.eqb_iff _ _).2 rfl]
 simp
theorem out_is {k : Int} (h : 0 ≤ k ∧ k ≤ 255) : isEv (eOut k) = true := by
 have h2 : k ≤ 1000000 := by omega
 unfold isEv
 rw [if_neg (show ¬ ((3 : Int) == 1) = true by decide), if_neg (show ¬ ((3 : Int) == 2) = true by decide), if_pos (show ((3 : Int) == 3) = true by decide), show Thing.eqb tN noT = true from (Thing.eqb_iff _ _).2 rfl, show Delta.eqb dN noD = true from (Delta.eqb_iff _ _).2 rfl]
 simp [h.1, h2]
theorem stp_in {k : Int} (h : 0 ≤ k ∧ k ≤ 255) : stp [] (eIn k) = ([tP k ⟨0, 0⟩], true) := by
 unfold stp
 rw [in_is h]
 simp [has, lo, hi]
theorem hi1 (k : Int) (p : Point) : hi [tP k p] k = [tP k p] ∧ lo [tP k p] k = [] := by simp [lo, hi]
theorem stp_up {k x : Int} {p : Point} (h : 0 ≤ k ∧ k ≤ 255) (hx : 0 ≤ x ∧ x < 64) : stp [tP k p] (eUp k x) = ([tP k ⟨x, 0⟩], true) := by
 unfold stp
 rw [up_is h hx, (hi1 k p).1, (hi1 k p).2]
 have ha : app (tP k p) (Delta.mk k 1 (Point.mk x 0) fN) = tP k ⟨x, 0⟩ := by
  unfold app a1
  simp only [fN, ite_self]
  rfl
 simp only [has, Bool.true_eq_false, if_false, beq_self_eq_true, List.nil_append, ha]
 rfl
theorem stp_out {k : Int} {p : Point} (h : 0 ≤ k ∧ k ≤ 255) : stp [tP k p] (eOut k) = ([], true) := by
 unfold stp
 rw [out_is h, (hi1 k p).1, (hi1 k p).2]
 simp only [has, Bool.true_eq_false, if_false, beq_self_eq_true]
 rfl
theorem stp_no2 {k : Int} (h : 0 ≤ k ∧ k ≤ 255) : stp [] (eOut k) = ([], false) := by
 unfold stp
 rw [out_is h]
 rfl
def lp : Int → List Int → Int
 | x, [] => x
 | _, y :: ys => lp (y % 64) ys
theorem fld_ups {k : Int} (h : 0 ≤ k ∧ k ≤ 255) (l0 : List Thing) (rest : List Event) : ∀ (ys : List Int) (x : Int), fld l0 [tP k ⟨x, 0⟩] (ys.map (fun y => eUp k (y % 64)) ++ rest) = fld l0 [tP k ⟨lp x ys, 0⟩] rest
 | [], x => rfl
 | y :: ys, x => by
  have hy : 0 ≤ y % 64 ∧ y % 64 < 64 := by omega
  rw [List.map_cons, List.cons_append, fld, stp_up h hy]
  exact fld_ups h l0 rest ys (y % 64)
theorem lp_last : ∀ (ys : List Int) (x : Int) (hn : 0 < ys.length), lp x ys = ys[ys.length - 1] % 64
 | [y], x, _ => rfl
 | y :: z :: ys, x, _ => by
  have := lp_last (z :: ys) (y % 64) (by simp)
  rw [lp, this]; simp
def es (k : Int) (xs : List Int) : List Event := eIn k :: xs.map fun y => eUp k (y % 64)
theorem fld_es {k : Int} (h : 0 ≤ k ∧ k ≤ 255) (xs : List Int) (rest : List Event) : fld [] [] (es k xs ++ rest) = fld [] [tP k ⟨lp 0 xs, 0⟩] rest := by
 unfold es
 rw [List.cons_append, fld, stp_in h]
 exact fld_ups h [] rest xs 0
theorem fold_es {n : Nat} (hn : 10000 ≤ n) {k : Int} (h : 0 ≤ k ∧ k ≤ 255) (xs : List Int) (hl : xs.length ≤ 20) (rest : List Event) (hr : rest.length ≤ 2) : F40 n [] (es k xs ++ rest) = some (fld [] [tP k ⟨lp 0 xs, 0⟩] rest) := by
 rw [fold_eq _ (by simp) (by simp [es]; omega) hn (by unfold Ris; simp), fld_es h]
theorem j13 {n : Nat} (hn : 10000 ≤ n) {k : Int} (h : 0 ≤ k ∧ k ≤ 255) (xs : List Int) (hl : xs.length ≤ 20) (w : Int) (hw : w = lp 0 xs) : F14_j13 n k (es k xs) ([tP k ⟨lp 0 xs, 0⟩], true) w = some true := by
 have wk : IntKind.wrap .i64 k = k := by simp [IntKind.wrap, IntKind.bits, IntKind.signed]; omega
 have hes : (es k xs).length = xs.length + 1 := by simp [es]
 unfold F14_j13
 rw [wk]
 have hE : (Event.mk 3 k (Thing.mk 0 (Point.mk 0 0) (A4.mk (Field.mk 0 ByteArray.empty) (Field.mk 0 ByteArray.empty) (Field.mk 0 ByteArray.empty) (Field.mk 0 ByteArray.empty))) (Delta.mk 0 0 (Point.mk 0 0) (A4.mk (Field.mk 0 ByteArray.empty) (Field.mk 0 ByteArray.empty) (Field.mk 0 ByteArray.empty) (Field.mk 0 ByteArray.empty)))) = eOut k := rfl
 rw [hE]
 have hm : maxCells = 70368744177664 := rfl
 have hlen : (es k xs ++ [eOut k]).length = xs.length + 2 := by rw [List.length_append, hes]; rfl
 rw [if_pos ⟨by rw [hes, hm]; omega, by rw [hes, hm]; omega⟩, fold_es hn h xs hl [eOut k] (by simp)]
 have h0 : ix (es k xs ++ [eOut k]) 0 = some (eIn k) := rfl
 have h1 : ix (es k xs ++ [eOut k]) (IntKind.wrap .i64 (((es k xs ++ [eOut k]).length : Int) - 1)) = some (eOut k) := by
  have e : IntKind.wrap .i64 (((es k xs ++ [eOut k]).length : Int) - 1) = (((es k xs).length : Nat) : Int) := by
   rw [hlen, hes]; simp [IntKind.wrap, IntKind.bits, IntKind.signed]; omega
  rw [e, ixg _ _ (by rw [hlen, hes]; omega)]; simp
 have hc : 0 < (es k xs ++ [eOut k]).length ∧ ((es k xs ++ [eOut k]).length + 1) * 264 ≤ maxCells ∧ (es k xs ++ [eOut k]).length + 1 ≤ maxCells := by rw [hlen, hm]; omega
 rw [Option.bind_some, h0, Option.bind_some, if_pos hc, List.append_assoc, fold_es hn h xs hl _ (by simp), Option.bind_some, h1, Option.bind_some, if_pos hc, List.append_assoc, fold_es hn h xs hl _ (by simp), Option.bind_some]
 have f1 : fld [] [tP k ⟨lp 0 xs, 0⟩] [eOut k] = ([], true) := by rw [fld, stp_out h]; rfl
 have f2 : fld [] [tP k ⟨lp 0 xs, 0⟩] ([eOut k] ++ [eIn k]) = ([tP k ⟨0, 0⟩], true) := by rw [List.singleton_append, fld, stp_out h]; show fld [] [] [eIn k] = _; rw [fld, stp_in h]; rfl
 have f3 : fld [] [tP k ⟨lp 0 xs, 0⟩] ([eOut k] ++ [eOut k]) = ([], false) := by rw [List.singleton_append, fld, stp_out h]; show fld [] [] [eOut k] = _; rw [fld, stp_no2 h]; rfl
 rw [f1, f2, f3]
 have h3 : ix [tP k ⟨lp 0 xs, 0⟩] 0 = some (tP k ⟨lp 0 xs, 0⟩) := rfl
 simp only [if_true, List.length_singleton, Int.natCast_one, beq_self_eq_true, h3, Option.bind_some, hw]
 rfl
theorem l8 {n : Nat} (hn : 10000 ≤ n) {k : Int} (h : 0 ≤ k ∧ k ≤ 255) (xs : List Int) (hl : xs.length ≤ 20) (hx : ∀ x ∈ xs, 0 ≤ x ∧ x ≤ 255) : ∀ (m i : Nat), i ≤ xs.length → xs.length - i < m →
  F14_l8 n k xs m (es k (xs.take i)) (i : Int) = some true := by
 have wk : IntKind.wrap .i64 k = k := by simp [IntKind.wrap, IntKind.bits, IntKind.signed]; omega
 have hm : maxCells = 70368744177664 := rfl
 have md : ∀ x ∈ xs, IntKind.wrap .i64 (Int.tmod x 64) = x % 64 := fun x hx' => by
  have := hx x hx'
  rw [Int.tmod_eq_emod_of_nonneg this.1]; simp [IntKind.wrap, IntKind.bits, IntKind.signed]; omega
 intro m
 induction m with
 | zero => intro i _ h; omega
 | succ m ih =>
  intro i hi hm'
  unfold F14_l8
  by_cases hlt : i < xs.length
  ·rw [if_pos (lt_dec hlt), ixg xs i hlt, Option.bind_some]
   have hes : (es k (xs.take i)).length = i + 1 := by simp [es]; omega
   rw [if_pos ⟨by rw [hes, hm]; omega, by rw [hes, hm]; omega⟩, dsucc (by simp only [maxLen]; omega), wk, md _ (List.getElem_mem hlt)]
   have e : es k (xs.take i) ++ [eUp k (xs[i] % 64)] = es k (xs.take (i + 1)) := by
    rw [List.take_succ_eq_append_getElem hlt]; unfold es; rw [List.map_append]; rfl
   have := ih (i + 1) (by omega) (by omega)
   rw [← e] at this
   exact this
  ·have hie : i = xs.length := by omega
   subst hie
   rw [if_neg (by simp), List.take_length]
   have hf := fold_es hn h xs hl [] (by simp)
   rw [List.append_nil] at hf
   rw [hf, Option.bind_some]
   show (if decide ((0 : Int) < (xs.length : Int)) = true then (ix xs (IntKind.wrap .i64 ((xs.length : Int) - 1))).bind fun x11 => F14_j13 n k (es k xs) ([tP k ⟨lp 0 xs, 0⟩], true) (IntKind.wrap .i64 (Int.tmod x11 64)) else F14_j13 n k (es k xs) ([tP k ⟨lp 0 xs, 0⟩], true) 0) = some true
   by_cases h0 : 0 < xs.length
   ·have e : IntKind.wrap .i64 ((xs.length : Int) - 1) = ((xs.length - 1 : Nat) : Int) := by simp [IntKind.wrap, IntKind.bits, IntKind.signed]; omega
    rw [if_pos (by simpa using h0), e, ixg xs _ (by omega), Option.bind_some, md _ (List.getElem_mem (by omega))]
    exact j13 hn h xs hl _ (lp_last xs 0 h0).symm
   ·rw [if_neg (by simpa using h0)]
    have : xs = [] := List.eq_nil_of_length_eq_zero (by omega)
    subst this
    exact j13 hn h [] (by simp) 0 rfl
theorem eventSpan_pure (a0 : Int) (a1 : List Int) (w0 : (Lit.int .u8 a0).wf = true) (w1 : (∀ a ∈ a1, (Lit.int .u8 a).wf = true) ∧ a1.length ≤ maxLen) : ∃ n, F14 n a0 a1 = some true := by
 refine ⟨10000, ?_⟩
 have h0 : 0 ≤ a0 ∧ a0 ≤ 255 := by simpa [Lit.wf, IntKind.min, IntKind.max, IntKind.bits, IntKind.signed] using w0
 have h1 : ∀ a ∈ a1, 0 ≤ a ∧ a ≤ 255 := fun a ha => by simpa [Lit.wf, IntKind.min, IntKind.max, IntKind.bits, IntKind.signed] using w1.1 a ha
 have wk : IntKind.wrap .i64 a0 = a0 := by simp [IntKind.wrap, IntKind.bits, IntKind.signed]; omega
 unfold F14
 rw [Option.bind_some, if_neg (by decide)]
 by_cases hl : (20 : Int) < (a1.length : Int)
 ·rw [if_pos (by simpa using hl)]
 ·rw [if_neg (by simpa using hl), wk]
  have := l8 (n := 10000) (by omega) h0 a1 (by omega) h1 (10000 + 8) 0 (by omega) (by omega)
  simpa [es] using this
end Go.Proofs.Ytobeamaaifgllaa
