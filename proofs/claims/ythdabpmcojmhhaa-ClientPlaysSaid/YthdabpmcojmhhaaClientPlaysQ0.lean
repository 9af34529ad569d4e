/- No condition. -/
import Derived.Test.YthdabpmcojmhhaaClientPlaysV
import Derived.Test.YthdabpmcojmhhaaClientPlaysP1
namespace Go.Proofs.Ythdabpmcojmhhaa
open Go Go.Rx
set_option maxRecDepth 100000
set_option linter.unusedVariables false
set_option linter.unusedSimpArgs false
set_option linter.unnecessarySimpa false
set_option linter.unnecessarySimpa false
theorem Point.eqb_iff (x y : Point) : Point.eqb x y = true ↔ x = y := by
 cases x; cases y; simp [Point.eqb]
theorem Field.eqb_iff (x y : Field) : Field.eqb x y = true ↔ x = y := by
 cases x; cases y; simp [Field.eqb, ba_beq]
theorem A4_Field.eqb_iff (x y : A4 Field) : A4_Field.eqb x y = true ↔ x = y := by
 cases x; cases y; simp [A4_Field.eqb, Field.eqb_iff]
theorem Thing.eqb_iff (x y : Thing) : Thing.eqb x y = true ↔ x = y := by
 cases x; cases y; simp [Thing.eqb, Point.eqb_iff, A4_Field.eqb_iff]
theorem Delta.eqb_iff (x y : Delta) : Delta.eqb x y = true ↔ x = y := by
 cases x; cases y; simp [Delta.eqb, Point.eqb_iff, A4_Field.eqb_iff]
theorem Thing.eqb_refl (x : Thing) : Thing.eqb x x = true := (Thing.eqb_iff x x).2 rfl
def noP : Point := ⟨0, 0⟩
def noF : Field := ⟨0, ByteArray.empty⟩
def hs (m i : Int) : Bool := zav .and .u8 (shrI .u8 m i) 1 == 1
theorem has0 (n : Nat) (m : Int) : F80 n m 0 = some (hs m 1) := rfl
theorem has1 (n : Nat) (m : Int) : F80 n m 1 = some (hs m 2) := rfl
theorem has2 (n : Nat) (m : Int) : F80 n m 2 = some (hs m 3) := rfl
theorem has3 (n : Nat) (m : Int) : F80 n m 3 = some (hs m 4) := rfl
theorem hs_not : ∀ k : Fin 256, (zav .and .u8 (shrI .u8 k.val 1) 1 == 0) = !(hs k.val 1) ∧ (zav .and .u8 (shrI .u8 k.val 2) 1 == 0) = !(hs k.val 2) ∧ (zav .and .u8 (shrI .u8 k.val 3) 1 == 0) = !(hs k.val 3) ∧ (zav .and .u8 (shrI .u8 k.val 4) 1 == 0) = !(hs k.val 4) := by decide +kernel
theorem fin_u8 {m : Int} (h : (Lit.int .u8 m).wf = true) : ∃ k : Fin 256, m = (k.val : Int) := by
 have := bounds_u8 h
 exact ⟨⟨m.toNat, by omega⟩, by simp; omega⟩
theorem hs_no {m : Int} (h : (Lit.int .u8 m).wf = true) : (zav .and .u8 (shrI .u8 m 1) 1 == 0) = !(hs m 1) ∧ (zav .and .u8 (shrI .u8 m 2) 1 == 0) = !(hs m 2) ∧ (zav .and .u8 (shrI .u8 m 3) 1 == 0) = !(hs m 3) ∧ (zav .and .u8 (shrI .u8 m 4) 1 == 0) = !(hs m 4) := by
 obtain ⟨k, rfl⟩ := fin_u8 h
 exact hs_not k
def isF (f : Field) : Bool := if f.N == 0 then decide ((f.Text.size : Int) ≤ 12) else if f.Text.toList == ByteArray.empty.toList then decide ((f.Text.size : Int) ≤ 12) else false
theorem isF_eq (n : Nat) (f : Field) : F62 n f = some (isF f) := by
 unfold F62 isF
 split
 ·rfl
 ·split <;> rfl
theorem zdy (n : Nat) (f : Field) : F70 n f = some (isF f) := by
 rw [← isF_eq n f]; rfl
def okF (f : Field) (e : Bool) : Bool := isF f && (e || Field.eqb f noF)
def on (p : Point) : Bool := if decide ((0 : Int) ≤ p.X) then if decide (p.X < 64) then if decide ((0 : Int) ≤ p.Y) then decide (p.Y < 64) else false else false else false
theorem on_eq (n : Nat) (p : Point) : F77 n p = some (on p) := by
 unfold F77 on
 split
 ·split
  ·split <;> rfl
  ·rfl
 ·rfl
theorem ron_eq (n : Nat) (p : Point) : F75 n p = some (on p) := by
 rw [← on_eq n p]; rfl
def a1 (d : Delta) : Bool := (zav .and .u8 d.Mask 1) != 0
def fl4 (d : Delta) : Bool := okF d.F.a0 (hs d.Mask 1) && (okF d.F.a1 (hs d.Mask 2) && (okF d.F.a2 (hs d.Mask 3) && okF d.F.a3 (hs d.Mask 4)))
def isD (d : Delta) : Bool := !(decide (d.ID < 0)) && (!(decide ((1000000 : Int) < d.ID)) && (!(d.Mask == 0) && (!(decide ((31 : Int) < d.Mask)) && ((a1 d || Point.eqb d.At noP) && (on d.At && fl4 d)))))
theorem zed (f : Field) (e : Bool) (o : Option Bool) (b : Bool) (ho : o = some b) : (if (!(isF f)) = true then some false else if (!e) = true then if (!(Field.eqb f ⟨0, ByteArray.empty⟩)) = true then some false else o else o) = some (okF f e && b) := by
 subst ho
 have : Field.eqb f ⟨0, ByteArray.empty⟩ = Field.eqb f noF := rfl
 rw [this]
 unfold okF
 cases isF f <;> cases e <;> cases Field.eqb f noF <;> simp
theorem isd_l (n : Nat) (d : Delta) : F73_j3 n d = some (fl4 d) := by
 have s3 : F73_u12 n d = some (okF d.F.a3 (hs d.Mask 4) && true) := by
  unfold F73_u12
  simp only [isF_eq, has3, yac]
  exact zed _ _ _ _ rfl
 have s2 : F73_u9 n d = some (okF d.F.a2 (hs d.Mask 3) && (okF d.F.a3 (hs d.Mask 4) && true)) := by
  unfold F73_u9
  simp only [isF_eq, has2, yac]
  exact zed _ _ _ _ s3
 have s1 : F73_u6 n d = some (okF d.F.a1 (hs d.Mask 2) && (okF d.F.a2 (hs d.Mask 3) && (okF d.F.a3 (hs d.Mask 4) && true))) := by
  unfold F73_u6
  simp only [isF_eq, has1, yac]
  exact zed _ _ _ _ s2
 have s0 : F73_j3 n d = some (okF d.F.a0 (hs d.Mask 1) && (okF d.F.a1 (hs d.Mask 2) && (okF d.F.a2 (hs d.Mask 3) && (okF d.F.a3 (hs d.Mask 4) && true)))) := by
  unfold F73_j3
  simp only [isF_eq, has0, yac]
  exact zed _ _ _ _ s1
 rw [s0]
 simp [fl4]
theorem isD_eq (n : Nat) (d : Delta) : F73 n d = some (isD d) := by
 unfold F73
 have hl := isd_l n d
 have ep : Point.eqb d.At (Point.mk 0 0) = Point.eqb d.At noP := rfl
 simp only [on_eq, yac, hl, isD, a1, ep, bne]
 by_cases h1 : d.ID < 0
 ·simp [h1]
 ·by_cases h2 : 1000000 < d.ID
  ·simp [h1, h2]
  ·by_cases h3 : d.Mask = 0
   ·simp [h1, h2, h3]
   ·by_cases h4 : 31 < d.Mask
    ·simp [h1, h2, h3, h4]
    ·cases h5 : (zav .and .u8 d.Mask 1 == 0) <;> cases h6 : Point.eqb d.At noP <;> cases h7 : on d.At <;> simp [h1, h2, h3, h4, h5, h6, h7]
theorem risd_s (n : Nat) (d : Delta) (hw : (Lit.int .u8 d.Mask).wf = true) : zgt n d = some (fl4 d) := by
 obtain ⟨k1, k2, k3, k4⟩ := hs_no hw
 have s3 : F60_u8 n d = some (okF d.F.a3 (hs d.Mask 4) && true) := by
  unfold F60_u8
  simp only [zdy, k4, yac]
  exact zed _ _ _ _ rfl
 have s2 : F60_u6 n d = some (okF d.F.a2 (hs d.Mask 3) && (okF d.F.a3 (hs d.Mask 4) && true)) := by
  unfold F60_u6
  simp only [zdy, k3, yac]
  exact zed _ _ _ _ s3
 have s1 : F60_u4 n d = some (okF d.F.a1 (hs d.Mask 2) && (okF d.F.a2 (hs d.Mask 3) && (okF d.F.a3 (hs d.Mask 4) && true))) := by
  unfold F60_u4
  simp only [zdy, k2, yac]
  exact zed _ _ _ _ s2
 have s0 : zgt n d = some (okF d.F.a0 (hs d.Mask 1) && (okF d.F.a1 (hs d.Mask 2) && (okF d.F.a2 (hs d.Mask 3) && (okF d.F.a3 (hs d.Mask 4) && true)))) := by
  unfold zgt
  simp only [zdy, k1, yac]
  exact zed _ _ _ _ s1
 rw [s0]
 simp [fl4]
theorem risD_eq (n : Nat) (d : Delta) (hw : (Lit.int .u8 d.Mask).wf = true) : F60 n d = some (isD d) := by
 have hb := bounds_u8 hw
 unfold F60
 have hl := risd_s n d hw
 have ep : Point.eqb d.At (Point.mk 0 0) = Point.eqb d.At noP := rfl
 simp only [ron_eq, yac, hl, isD, a1, ep, bne]
 by_cases h1 : d.ID < 0
 ·simp [h1]
 ·by_cases h2 : 1000000 < d.ID
  ·simp [h1, h2]
  ·by_cases h3 : d.Mask = 0
   ·simp [h1, h2, h3]
   ·have h3' : ¬ d.Mask < 1 := by omega
    by_cases h4 : 31 < d.Mask
    ·simp [h1, h2, h3, h3', h4]
    ·cases h5 : (zav .and .u8 d.Mask 1 == 0) with
     | true => cases h6 : Point.eqb d.At noP with
      | false => simp [h1, h2, h3, h3', h4, h5, h6]
      | true =>
       have hat : on d.At = true := by rw [(Point.eqb_iff _ _).1 h6]; rfl
       simp [h1, h2, h3, h3', h4, h5, h6, hat]
     | false => cases h7 : on d.At <;> simp [h1, h2, h3, h3', h4, h5, h7]
def ch (x : Int) : Int := zav .or .u8 (IntKind.wrap .u8 x) 128
def putL : Nat → Int → List Int
 | 0, _ => []
 | k + 1, x => if 128 ≤ x then ch x :: putL k (x / 128) else [IntKind.wrap .u8 x]
def pt (x : Int) : ByteArray := mkStr (putL 10 x)
def pu (x : Int) : ByteArray := pt (IntKind.wrap .u64 x)
def head (d : Delta) : ByteArray := if a1 d then (pu d.ID ++ pu d.Mask) ++ (pu d.At.X ++ pu d.At.Y) else pu d.ID ++ pu d.Mask
theorem ixg {α : Type} (l : List α) (i : Nat) (h : i < l.length) : ix l (i : Int) = some l[i] := by
 simp [ix, h]
theorem zbz {i : Nat} (h : i < maxLen) : IntKind.wrap .i64 ((i : Int) + 1) = ((i + 1 : Nat) : Int) := by
 simp only [maxLen] at h
 simp [IntKind.wrap, IntKind.bits, IntKind.signed]; omega
theorem zbl {i n : Nat} (h : i < n) : decide ((i : Int) < (n : Int)) = true := by simp; omega
theorem zbr {i n : Nat} (h : ¬ i < n) : decide ((i : Int) < (n : Int)) = false := by simp; omega
theorem dropS {α : Type} (l : List α) (i : Nat) (h : i < l.length) : l.drop i = l[i] :: l.drop (i + 1) := (List.getElem_cons_drop (h := h)).symm
def isTh (t : Thing) : Bool := decide (0 ≤ t.ID) && (decide (t.ID ≤ 1000000) && (on t.At && (isF t.F.a0 && (isF t.F.a1 && (isF t.F.a2 && isF t.F.a3)))))
theorem not_eq (n : Nat) (f : Field) : F79 n f = some (!(isF f)) := by
 unfold F79
 simp only [isF_eq, yac]
theorem is_eq (n : Nat) (t : Thing) : F72 n t = some (isTh t) := by
 have hz : ∀ a b c d : Field, F78s0 n [a, b, c, d] = some (!(isF a && (isF b && (isF c && isF d)))) := by
  intro a b c d
  unfold F78s0 F91s0
  unfold zci
  have w1 : IntKind.wrap .i64 ((0 : Int) + 1) = 1 := by decide
  have w2 : IntKind.wrap .i64 ((1 : Int) + 1) = 2 := by decide
  have w3 : IntKind.wrap .i64 ((2 : Int) + 1) = 3 := by decide
  have w4 : IntKind.wrap .i64 ((3 : Int) + 1) = 4 := by decide
  have x0 : ix [a, b, c, d] 0 = some a := rfl
  have x1 : ix [a, b, c, d] 1 = some b := rfl
  have x2 : ix [a, b, c, d] 2 = some c := rfl
  have x3 : ix [a, b, c, d] 3 = some d := rfl
  have l0 : decide ((0 : Int) < (([a, b, c, d] : List Field).length : Int)) = true := rfl
  have l1 : decide ((1 : Int) < (([a, b, c, d] : List Field).length : Int)) = true := rfl
  have l2 : decide ((2 : Int) < (([a, b, c, d] : List Field).length : Int)) = true := rfl
  have l3 : decide ((3 : Int) < (([a, b, c, d] : List Field).length : Int)) = true := rfl
  have l4 : decide ((4 : Int) < (([a, b, c, d] : List Field).length : Int)) = false := rfl
  rw [if_pos l0, x0]
  simp only [yac, not_eq]
  cases isF a with
  | false => rfl
  | true =>
   simp only [ybb, yad, if_false, ybf]
   rw [w1]
   unfold zci
   rw [if_pos l1, x1]
   simp only [yac, not_eq]
   cases isF b with
   | false => rfl
   | true =>
    simp only [ybb, yad, if_false, ybf]
    rw [w2]
    unfold zci
    rw [if_pos l2, x2]
    simp only [yac, not_eq]
    cases isF c with
    | false => rfl
    | true =>
     simp only [ybb, yad, if_false, ybf]
     rw [w3]
     unfold zci
     rw [if_pos l3, x3]
     simp only [yac, not_eq]
     cases isF d with
     | false => rfl
     | true =>
      simp only [ybb, yad, if_false]
      rw [w4]
      unfold zci
      rw [if_neg (by rw [l4]; decide)]
      rfl
 unfold F72 isTh
 rw [hz]
 simp only [on_eq, yac, Bool.not_not]
 by_cases h1 : 0 ≤ t.ID
 ·by_cases h2 : t.ID ≤ 1000000
  ·cases h3 : on t.At <;> simp [h1, h2]
  ·simp [h1, h2]
 ·simp [h1]
theorem ris_eq (n : Nat) (t : Thing) : F59 n t = some (isTh t) := by
 have k15 : ∀ b, F59_u15 n b = some b := fun b => rfl
 have k12 : ∀ b, F59_u12 n t b = some (b && isF t.F.a3) := fun b => by
  unfold F59_u12; cases b <;> simp only [zdy, yac, k15, if_true, if_false, yad, ybf, ybr]
 have k9 : ∀ b, F59_u9 n t b = some (b && (isF t.F.a2 && isF t.F.a3)) := fun b => by
  unfold F59_u9; cases b <;> simp only [zdy, yac, k12, if_true, if_false, yad, ybf, ybr]
 have k6 : ∀ b, F59_u6 n t b = some (b && (isF t.F.a1 && (isF t.F.a2 && isF t.F.a3))) := fun b => by
  unfold F59_u6; cases b <;> simp only [zdy, yac, k9, if_true, if_false, yad, ybf, ybr]
 have k3 : ∀ b, F59_j3 n t b = some (b && (isF t.F.a0 && (isF t.F.a1 && (isF t.F.a2 && isF t.F.a3)))) := fun b => by
  unfold F59_j3; cases b <;> simp only [zdy, yac, k6, if_true, if_false, yad, ybf, ybr]
 unfold F59 isTh
 simp only [ron_eq, yac, k3]
 by_cases h1 : 0 ≤ t.ID
 ·by_cases h2 : t.ID ≤ 1000000
  ·simp [h1, h2]
  ·simp [h1, h2]
 ·simp [h1]
theorem Rect.eqb_iff (x y : Rect) : Rect.eqb x y = true ↔ x = y := by
 cases x; cases y; simp [Rect.eqb, and_assoc]
theorem Command.eqb_iff (x y : Command) : Command.eqb x y = true ↔ x = y := by
 cases x; cases y; simp [Command.eqb, Point.eqb_iff, A4_Field.eqb_iff, Field.eqb_iff, Rect.eqb_iff]
theorem Command.eqb_refl (x : Command) : Command.eqb x x = true := (Command.eqb_iff x x).2 rfl
def near (x : Int) : Bool := decide (-1000 ≤ x) && decide (x ≤ 1000)
theorem near_l (n : Nat) (l : List Int) (hl : l.length ≤ 8) : ∀ (m i : Nat), i ≤ l.length → l.length - i < m → F64_l4 n l m (i : Int) = some ((l.drop i).all near)
 | 0, i, _, h => by omega
 | m + 1, i, h1, h2 => by
  unfold F64_l4
  by_cases hi : i < l.length
  ·have ed : l.drop i = l[i] :: l.drop (i + 1) := by rw [List.drop_eq_getElem_cons hi]
   have ea : (l.drop i).all near = (near l[i] && (l.drop (i + 1)).all near) := by rw [ed, yby]
   simp only [zbl hi, if_true, ixg l i hi, yac, zbz (show i < maxLen by simp only [maxLen]; omega), ea, near_l n l hl m (i + 1) (by omega) (by omega)]
   generalize l[i] = x
   unfold near
   by_cases h3 : (-1000 : Int) ≤ x <;> by_cases h4 : x ≤ 1000 <;> simp [h3, h4]
  ·have ed : l.drop i = [] := List.drop_eq_nil_of_le (by omega)
   simp only [zbr hi, yad, if_false, ed, List.all_nil]
theorem near_eq (n : Nat) (l : List Int) (hl : l.length ≤ 7) : F64 n l = some (l.all near) := by
 unfold F64
 have := near_l n l (by omega) (n + 8) 0 (by omega) (by omega)
 simpa using this
def coreC (c : Command) : Command := (F63 0 c).getD c
theorem core_eq (n : Nat) (c : Command) : F63 n c = some (coreC c) := by
 have h : ∀ m, F63 m c = F63 0 c := fun m => rfl
 rw [h n]
 unfold coreC
 have : (F63 0 c).isSome := by
  unfold F63
  repeat (split <;> try rfl)
 obtain ⟨r, hr⟩ := Option.isSome_iff_exists.1 this
 rw [hr]; rfl
def boundsC (c : Command) : Bool := (decide (0 ≤ c.Client) && (decide (c.Client < 4) && (decide (0 ≤ c.Session) && decide (c.Session ≤ 1000000)))) &&
 ((decide (0 ≤ c.ID) && (decide (c.ID ≤ 1000000) && (decide (-1 ≤ c.Which) && (decide (c.Which ≤ 100) && (decide (-1 ≤ c.To) && (decide (c.To ≤ 100) && isF c.Value)))))) &&
  [c.At.X, c.At.Y, c.Rect.X0, c.Rect.Y0, c.Rect.X1, c.Rect.Y1].all near)
def isC (c : Command) : Bool := (isF c.F.a0 && (isF c.F.a1 && (isF c.F.a2 && isF c.F.a3))) && ((decide (1 ≤ c.Kind) && (decide (c.Kind ≤ 8) && Command.eqb c (coreC c))) && boundsC c)
theorem isC_eq (n : Nat) (c : Command) : F51 n c = some (isC c) := by
 have j12 : ∀ x y z, zcu n c x y z = some (x && (y && (z && [c.At.X, c.At.Y, c.Rect.X0, c.Rect.Y0, c.Rect.X1, c.Rect.Y1].all near))) := by
  intro x y z
  unfold zcu
  rw [near_eq n _ (by simp)]
  cases x <;> cases y <;> cases z <;> simp
 have j9 : ∀ x y, F51_j9 n c x y = some (x && (y && ((decide (0 ≤ c.ID) && (decide (c.ID ≤ 1000000) && (decide (-1 ≤ c.Which) && (decide (c.Which ≤ 100) && (decide (-1 ≤ c.To) && (decide (c.To ≤ 100) && isF c.Value)))))) && [c.At.X, c.At.Y, c.Rect.X0, c.Rect.Y0, c.Rect.X1, c.Rect.Y1].all near))) := by
  intro x y
  unfold F51_j9
  simp only [j12, isF_eq, yac]
  by_cases h1 : (0 : Int) ≤ c.ID
  ·by_cases h2 : c.ID ≤ 1000000
   ·by_cases h3 : (-1 : Int) ≤ c.Which
    ·by_cases h4 : c.Which ≤ 100
     ·by_cases h5 : (-1 : Int) ≤ c.To
      ·by_cases h6 : c.To ≤ 100 <;> simp only [h1, h2, h3, h4, h5, h6, decide_true, decide_false, if_true, yad, if_false, ybf, ybr, ych]
      ·simp only [h1, h2, h3, h4, h5, decide_true, decide_false, if_true, yad, if_false, ybf, ybr, ych]
     ·simp only [h1, h2, h3, h4, decide_true, decide_false, if_true, yad, if_false, ybf, ybr, ych]
    ·simp only [h1, h2, h3, decide_true, decide_false, if_true, yad, if_false, ybf, ybr, ych]
   ·simp only [h1, h2, decide_true, decide_false, if_true, yad, if_false, ybf, ybr, ych]
  ·simp only [h1, decide_true, decide_false, if_true, yad, if_false, ybf, ybr, ych]
 have j7 : ∀ x, F51_j7 n c x = some (x && boundsC c) := by
  intro x
  unfold F51_j7 boundsC
  simp only [j9]
  by_cases h1 : (0 : Int) ≤ c.Client
  ·by_cases h2 : c.Client < 4
   ·by_cases h3 : (0 : Int) ≤ c.Session <;> simp only [h1, h2, h3, decide_true, decide_false, if_true, yad, if_false, ybf, ybr, ych]
   ·simp only [h1, h2, decide_true, decide_false, if_true, yad, if_false, ybf, ybr, ych]
  ·simp only [h1, decide_true, decide_false, if_true, yad, if_false, ybf, ybr, ych]
 unfold F51 isC
 simp only [isF_eq, yac, core_eq, j7]
 cases isF c.F.a0
 ·rfl
 ·cases isF c.F.a1
  ·rfl
  ·cases isF c.F.a2
   ·rfl
   ·cases isF c.F.a3
    ·rfl
    ·by_cases h1 : (1 : Int) ≤ c.Kind
     ·by_cases h2 : c.Kind ≤ 8 <;> simp [h1, h2]
     ·simp [h1]
def noT : Thing := ⟨0, ⟨0, 0⟩, ⟨noF, noF, noF, noF⟩⟩
def noD : Delta := ⟨0, 0, ⟨0, 0⟩, ⟨noF, noF, noF, noF⟩⟩
theorem Event.eqb_iff (x y : Event) : Event.eqb x y = true ↔ x = y := by
 cases x; cases y; simp [Event.eqb, Thing.eqb_iff, Delta.eqb_iff]
theorem Event.eqb_refl (x : Event) : Event.eqb x x = true := (Event.eqb_iff x x).2 rfl
theorem Delta.eqb_refl (x : Delta) : Delta.eqb x x = true := (Delta.eqb_iff x x).2 rfl
def isEv (e : Event) : Bool :=
 if e.Kind == 1 then isTh e.Thing && (e.ID == e.Thing.ID && Delta.eqb e.Delta noD)
 else if e.Kind == 2 then isD e.Delta && (e.ID == e.Delta.ID && Thing.eqb e.Thing noT)
 else if e.Kind == 3 then decide (0 ≤ e.ID) && (decide (e.ID ≤ 1000000) && (Thing.eqb e.Thing noT && Delta.eqb e.Delta noD))
 else false
theorem ite_bool (a b : Bool) : (if a = true then some b else some false) = some (a && b) := by cases a <;> rfl
theorem ev_is (n : Nat) (e : Event) : F57 n e = some (isEv e) := by
 unfold F57 isEv
 simp only [is_eq, isD_eq, yac, ite_bool]
 by_cases h1 : (e.Kind == 1) = true
 ·rw [if_pos h1, if_pos h1]; rfl
 ·rw [if_neg h1, if_neg h1]
  by_cases h2 : (e.Kind == 2) = true
  ·rw [if_pos h2, if_pos h2]; rfl
  ·rw [if_neg h2, if_neg h2]
   by_cases h3 : (e.Kind == 3) = true
   ·rw [if_pos h3, h3, ybf]; rfl
   ·have h4 : (e.Kind == 3) = false := by simpa using h3
    rw [if_neg h3, h4, ybr]
theorem rev_is (n : Nat) (e : Event) (hw : (Lit.int .u8 e.Delta.Mask).wf = true) : F48 n e = some (isEv e) := by
 unfold F48 isEv
 simp only [ris_eq, risD_eq n e.Delta hw, yac, ite_bool]
 by_cases h1 : (e.Kind == 1) = true
 ·rw [if_pos h1, if_pos h1]; rfl
 ·rw [if_neg h1, if_neg h1]
  by_cases h2 : (e.Kind == 2) = true
  ·rw [if_pos h2, if_pos h2]; rfl
  ·rw [if_neg h2, if_neg h2]
   by_cases h3 : (e.Kind == 3) = true
   ·rw [if_pos h3, h3, ybf]; rfl
   ·have h4 : (e.Kind == 3) = false := by simpa using h3
    rw [if_neg h3, h4, ybr]
def app (t : Thing) (d : Delta) : Thing := ⟨t.ID, if a1 d then d.At else t.At, ⟨if hs d.Mask 1 then d.F.a0 else t.F.a0, if hs d.Mask 2 then d.F.a1 else t.F.a1, if hs d.Mask 3 then d.F.a2 else t.F.a2, if hs d.Mask 4 then d.F.a3 else t.F.a3⟩⟩
theorem app_eq (n : Nat) (t : Thing) (d : Delta) : F85 n t d = some (app t d) := by
 unfold F85 F85_j2 F85_u5 F85_u8 F85_u11 F85_u14 app a1
 simp only [has0, has1, has2, has3, yac]
 generalize ((zav .and .u8 d.Mask 1) != 0) = eA
 generalize hs d.Mask 1 = e0
 generalize hs d.Mask 2 = e1
 generalize hs d.Mask 3 = e2
 generalize hs d.Mask 4 = e3
 cases eA <;> cases e0 <;> cases e1 <;> cases e2 <;> cases e3 <;> rfl
theorem app_is {t : Thing} {d : Delta} (ht : isTh t = true) (hd : isD d = true) : isTh (app t d) = true := by
 have okf : ∀ (f g : Field) (e : Bool), isF g = true → okF f e = true → isF (if e = true then f else g) = true := by
  intro f g e h h'
  cases e with
  | false => exact h
  | true => simp only [okF, yag] at h'; exact h'.1
 simp only [isD, fl4, yag] at hd
 simp only [isTh, yag] at ht ⊢
 obtain ⟨_, _, _, _, _, hon, h0, h1, h2, h3⟩ := hd
 obtain ⟨t0, t1, t2, t3, t4, t5, t6⟩ := ht
 refine ⟨t0, t1, ?_, okf _ _ _ t3 h0, okf _ _ _ t4 h1, okf _ _ _ t5 h2, okf _ _ _ t6 h3⟩
 show on (if a1 d = true then d.At else t.At) = true
 split
 ·exact hon
 ·exact t2
def Ris (l : List Thing) : Prop := l.Pairwise fun a b => a.ID < b.ID
def lo (l : List Thing) (x : Int) : List Thing := l.takeWhile fun t => decide (t.ID < x)
def hi (l : List Thing) (x : Int) : List Thing := l.dropWhile fun t => decide (t.ID < x)
def has (b : List Thing) (x : Int) : Bool := match b with
 | [] => false
 | t :: _ => t.ID == x
theorem lohi (l : List Thing) (x : Int) : lo l x ++ hi l x = l := List.takeWhile_append_dropWhile
theorem lo_lt (l : List Thing) (x : Int) : ∀ t ∈ lo l x, t.ID < x := by
 induction l with
 | nil => intro t h; cases h
 | cons u l ih =>
  intro t h
  simp only [lo, List.takeWhile_cons] at h
  split at h
  ·rename_i hu
   cases h with
   | head => exact of_decide_eq_true hu
   | tail _ h' => exact ih t h'
  ·cases h
theorem hi_ge {l : List Thing} (hl : Ris l) (x : Int) : ∀ t ∈ hi l x, x ≤ t.ID := by
 induction l with
 | nil => intro t h; cases h
 | cons u l ih =>
  intro t h
  cases hl with
  | cons hu hr =>
   simp only [hi, List.dropWhile_cons] at h
   split at h
   ·exact ih hr t h
   ·rename_i hx
    have hx' : x ≤ u.ID := by simp at hx; exact hx
    cases h with
    | head => exact hx'
    | tail _ h' => have := hu t h'; omega
def stp (l : List Thing) (e : Event) : List Thing × Bool :=
 if isEv e = false then (l, false)
 else if has (hi l e.ID) e.ID == (e.Kind == 1) then (l, false)
 else if e.Kind == 1 then (lo l e.ID ++ e.Thing :: hi l e.ID, true)
 else if e.Kind == 2 then (lo l e.ID ++ (match hi l e.ID with | [] => [] | u :: b => app u e.Delta :: b), true)
 else (lo l e.ID ++ (hi l e.ID).tail, true)
theorem ris_ins {a b : List Thing} {t : Thing} (h : Ris (a ++ b)) (ha : ∀ u ∈ a, u.ID < t.ID) (hb : ∀ u ∈ b, t.ID < u.ID) : Ris (a ++ t :: b) := by
 unfold Ris at *
 rw [List.pairwise_append] at h ⊢
 refine ⟨h.1, List.pairwise_cons.2 ⟨hb, h.2.1⟩, ?_⟩
 intro u hu v hv
 cases hv with
 | head => exact ha u hu
 | tail _ hv' => exact h.2.2 u hu v hv'
theorem ris_del {a b : List Thing} {t : Thing} (h : Ris (a ++ t :: b)) : Ris (a ++ b) := by
 unfold Ris at *
 rw [List.pairwise_append] at h ⊢
 exact ⟨h.1, (List.pairwise_cons.1 h.2.1).2, fun u hu v hv => h.2.2 u hu v (yat _ hv)⟩
theorem ris_set {a b : List Thing} {t u : Thing} (h : Ris (a ++ t :: b)) (hi : u.ID = t.ID) : Ris (a ++ u :: b) := by
 unfold Ris at *
 rw [List.pairwise_append] at h ⊢
 refine ⟨h.1, List.pairwise_cons.2 ⟨fun v hv => ?_, (List.pairwise_cons.1 h.2.1).2⟩, ?_⟩
 ·rw [hi]; exact (List.pairwise_cons.1 h.2.1).1 v hv
 ·intro v hv w hw
  cases hw with
  | head => rw [hi]; exact h.2.2 v hv t ybo
  | tail _ hw' => exact h.2.2 v hv w (yat _ hw')
theorem has_no {b : List Thing} {x : Int} (hr : Ris b) (hg : ∀ t ∈ b, x ≤ t.ID) (h : has b x = false) : ∀ t ∈ b, x < t.ID := by
 cases b with
 | nil => intro t h; cases h
 | cons u b =>
  have hu : u.ID ≠ x := by simpa [has] using h
  have h1 := hg u ybo
  intro t ht
  cases ht with
  | head => omega
  | tail _ ht' => have := (List.pairwise_cons.1 hr).1 t ht'; omega
theorem has_yes {b : List Thing} {x : Int} (h : has b x = true) : ∃ u b', b = u :: b' ∧ u.ID = x := by
 cases b with
 | nil => cases h
 | cons u b => exact ⟨u, b, rfl, by simpa [has] using h⟩
theorem ris_hi {l : List Thing} (h : Ris l) (x : Int) : Ris (hi l x) := by
 have := h; rw [← lohi l x] at this; exact (List.pairwise_append.1 this).2.1
theorem isEv_id {e : Event} (h : isEv e = true) (h1 : (e.Kind == 1) = true) : isTh e.Thing = true ∧ e.ID = e.Thing.ID := by
 unfold isEv at h
 rw [if_pos h1] at h
 simp only [yag, beq_iff_eq] at h
 exact ⟨h.1, h.2.1⟩
theorem isEv_d {e : Event} (h : isEv e = true) (h1 : (e.Kind == 1) = false) (h2 : (e.Kind == 2) = true) : isD e.Delta = true := by
 unfold isEv at h
 rw [h1, h2] at h
 simp only [yad, if_false, if_true, yag] at h
 exact h.1
theorem zfx {l : List Thing} (h : Ris l) (e : Event) : Ris (stp l e).1 ∧ (stp l e).1.length ≤ l.length + 1 ∧ ((∀ t ∈ l, isTh t = true) → ∀ t ∈ (stp l e).1, isTh t = true) := by
 have hl := lohi l e.ID
 have hlo := lo_lt l e.ID
 have hge := hi_ge h e.ID
 have hrh := ris_hi h e.ID
 have hlen : l.length = (lo l e.ID).length + (hi l e.ID).length := by rw [← yae, hl]
 unfold stp
 cases hE : isEv e with
 | false => exact ⟨h, by simp, fun q => q⟩
 | true =>
  simp only [Bool.true_eq_false, if_false]
  cases hh : has (hi l e.ID) e.ID with
  | false =>
   cases h1 : (e.Kind == 1) with
   | false => exact ⟨h, by simp, fun q => q⟩
   | true =>
    obtain ⟨hT, hid⟩ := isEv_id hE h1
    simp only [Bool.false_beq, ybb, yad, if_false, if_true]
    refine ⟨ris_ins (by rw [hl]; exact h) (by rw [← hid]; exact hlo) (by rw [← hid]; exact has_no hrh hge hh), by simp only [yae, yaq]; omega, fun q t ht => ?_⟩
    rw [List.mem_append, yav] at ht
    rcases ht with ht | rfl | ht
    ·exact q t (by rw [← hl]; exact List.mem_append_left _ ht)
    ·exact hT
    ·exact q t (by rw [← hl]; exact List.mem_append_right _ ht)
  | true =>
   cases h1 : (e.Kind == 1) with
   | true => exact ⟨h, by simp, fun q => q⟩
   | false =>
    simp only [Bool.true_beq, yad, if_false]
    obtain ⟨u, b, hb, hu⟩ := has_yes hh
    rw [hb] at hlen hl ⊢
    have hR : Ris (lo l e.ID ++ u :: b) := by rw [hl]; exact h
    have hin : ∀ t, t ∈ lo l e.ID ∨ t = u ∨ t ∈ b → t ∈ l := by
     intro t ht; rw [← hl, List.mem_append, yav]; exact ht
    simp only [yaq] at hlen
    cases h2 : (e.Kind == 2) with
    | true =>
     simp only [if_true]
     refine ⟨ris_set hR rfl, by simp only [yae, yaq]; omega, fun q t ht => ?_⟩
     rw [List.mem_append, yav] at ht
     rcases ht with ht | rfl | ht
     ·exact q t (hin t (.inl ht))
     ·exact app_is (q u (hin u (.inr (.inl rfl)))) (isEv_d hE h1 h2)
     ·exact q t (hin t (.inr (.inr ht)))
    | false =>
     simp only [yad, if_false, List.tail_cons]
     refine ⟨ris_del hR, by simp only [yae]; omega, fun q t ht => ?_⟩
     rw [List.mem_append] at ht
     rcases ht with ht | ht
     ·exact q t (hin t (.inl ht))
     ·exact q t (hin t (.inr (.inr ht)))
theorem cmp_eq (n : Nat) (t : Thing) (x : Int) : F82 n t x = some (if t.ID < x then -1 else if x < t.ID then 1 else 0) := by
 unfold F82 F83 F92
 simp only [yac, bne_self_eq_false, yad, if_false, decide_eq_true_eq]
 split
 ·rfl
 ·split <;> rfl
theorem shr1' (x : Int) : shrI .u64 x 1 = x / 2 := by
 unfold shrI; rw [Int.fdiv_eq_ediv_of_nonneg _ (by decide)]; rfl
theorem half {i j : Nat} (h : i + j < 1000000) : IntKind.wrap .i64 (shrI .u64 (IntKind.wrap .u64 (IntKind.wrap .i64 ((i : Int) + (j : Int)))) 1) = (((i + j) / 2 : Nat) : Int) := by
 have e1 : IntKind.wrap .i64 ((i : Int) + (j : Int)) = ((i + j : Nat) : Int) := by simp [IntKind.wrap, IntKind.bits, IntKind.signed]; omega
 have e2 : IntKind.wrap .u64 ((i + j : Nat) : Int) = ((i + j : Nat) : Int) := by simp [IntKind.wrap, IntKind.bits, IntKind.signed]; omega
 have e3 : shrI .u64 ((i + j : Nat) : Int) 1 = (((i + j) / 2 : Nat) : Int) := by
  rw [shr1']; omega
 rw [e1, e2, e3]
 simp [IntKind.wrap, IntKind.bits, IntKind.signed]; omega
theorem bs_l (n : Nat) (a b : List Thing) (x : Int) (ha : ∀ t ∈ a, t.ID < x) (hb : ∀ t ∈ b, x ≤ t.ID) (hlen : a.length + b.length ≤ 100000) : ∀ (m i j : Nat), i ≤ a.length → a.length ≤ j → j ≤ a.length + b.length → j - i < m →
  zds n (a ++ b) x m (i : Int) (j : Int) = some ((a.length : Int), has b x) := by
 intro m
 induction m with
 | zero => intro i j _ _ _ h; omega
 | succ m ih =>
  intro i j h1 h2 h3 hm
  unfold zds
  have hL : (a ++ b).length = a.length + b.length := yae
  by_cases hij : i < j
  ·rw [if_pos (zbl hij), half (by omega), ixg (a ++ b) ((i + j) / 2) (by omega)]
   simp only [yac, cmp_eq]
   by_cases hq : (i + j) / 2 < a.length
   ·have hlt : ((a ++ b)[(i + j) / 2]'(by omega)).ID < x := by rw [List.getElem_append_left hq]; exact ha _ (ybq _)
    rw [if_pos hlt, if_pos (by decide), zbz (by simp only [maxLen]; omega)]
    exact ih ((i + j) / 2 + 1) j (by omega) h2 h3 (by omega)
   ·have hge : x ≤ ((a ++ b)[(i + j) / 2]'(by omega)).ID := by rw [List.getElem_append_right (by omega)]; exact hb _ (ybq _)
    have hno : ¬ (decide ((if ((a ++ b)[(i + j) / 2]'(by omega)).ID < x then (-1 : Int) else if x < ((a ++ b)[(i + j) / 2]'(by omega)).ID then 1 else 0) < 0) = true) := by
     rw [if_neg (by omega)]; split <;> decide
    rw [if_neg hno]
    exact ih i ((i + j) / 2) h1 (by omega) (by omega) (by omega)
  ·have hi' : i = a.length := by omega
   subst hi'
   rw [if_neg (by simp; omega)]
   cases b with
   | nil =>
    simp only [List.length_nil, ybv] at hL h3
    rw [if_neg (by rw [hL]; simp)]
    rfl
   | cons u b =>
    rw [if_pos (by rw [hL]; simp; omega), ixg (a ++ u :: b) a.length (by rw [hL]; simp)]
    simp only [yac, cmp_eq]
    have hg : (a ++ u :: b)[a.length]'(by rw [hL]; simp) = u := by simp
    rw [hg]
    have hu := hb u ybo
    rw [if_neg (by omega)]
    simp only [has]
    by_cases he : u.ID = x
    ·rw [he, if_neg (by omega)]; simp
    ·rw [if_pos (by omega)]
     simp [he]
theorem bs_eq {n : Nat} {l : List Thing} (hr : Ris l) (hl : l.length ≤ 100000) (hn : l.length ≤ n) (x : Int) : F81s0 n l x = some (((lo l x).length : Int), has (hi l x) x) := by
 have h := bs_l n (lo l x) (hi l x) x (lo_lt l x) (hi_ge hr x) (by rw [← yae, lohi]; exact hl) (n + 8) 0 l.length (by omega) (by have := congrArg List.length (lohi l x); rw [yae] at this; omega) (by rw [← yae, lohi]; exact yai _) (by omega)
 rw [lohi] at h
 exact h
theorem clone_eq {l : List Thing} (hl : l.length ≤ 100000) : zca l = some l := by
 unfold zca; rw [if_pos (by omega)]
theorem step_eq {n : Nat} {l : List Thing} (hr : Ris l) (hl : l.length ≤ 100000) (hn : l.length ≤ n) (e : Event) : F74 n l e = some (stp l e) := by
 unfold F74 stp
 rw [bs_eq hr hl hn, ev_is, clone_eq hl]
 have hL := lohi l e.ID
 have hlen : l.length = (lo l e.ID).length + (hi l e.ID).length := by rw [← yae, hL]
 have htk : l.take (lo l e.ID).length = lo l e.ID := by
  have := List.take_left' (l₁ := lo l e.ID) (l₂ := hi l e.ID) rfl
  rw [hL] at this; exact this
 have hdk : l.drop (lo l e.ID).length = hi l e.ID := by
  have := List.drop_left' (l₁ := lo l e.ID) (l₂ := hi l e.ID) rfl
  rw [hL] at this; exact this
 simp only [yac]
 cases hE : isEv e with
 | false => rfl
 | true =>
  simp only [ybb, yad, Bool.true_eq_false, if_false]
  cases hh : has (hi l e.ID) e.ID with
  | false =>
   cases h1 : (e.Kind == 1) with
   | false => rfl
   | true =>
    simp only [Bool.false_beq, ybb, yad, if_false, if_true]
    unfold insL
    rw [if_pos ⟨by omega, by omega, by omega⟩]
    simp only [Int.toNat_natCast, yac, htk, hdk]
  | true =>
   cases h1 : (e.Kind == 1) with
   | true => rfl
   | false =>
    simp only [Bool.true_beq, yad, if_false]
    obtain ⟨u, b, hb, hu⟩ := has_yes hh
    rw [hb] at hlen hL hdk ⊢
    simp only [yaq] at hlen
    have hk : (lo l e.ID).length < l.length := by omega
    have hget : l[(lo l e.ID).length]'hk = u := by
     have h0 := congrArg List.head? hdk
     rw [List.head?_drop, List.head?_cons, yab hk] at h0
     exact Option.some.inj h0
    cases h2 : (e.Kind == 2) with
    | true =>
     simp only [if_true]
     rw [ixg l _ hk, hget]
     simp only [yac, app_eq, Int.toNat_natCast]
     have hset : l.set (lo l e.ID).length (app u e.Delta) = lo l e.ID ++ app u e.Delta :: b := by
      conv => lhs; arg 1; rw [← hL]
      rw [List.set_append_right _ _ (yai _), Nat.sub_self]
      rfl
     rw [hset]
    | false =>
     simp only [yad, if_false]
     rw [zbz (by simp only [maxLen]; omega)]
     unfold delL
     rw [if_pos ⟨by omega, by omega, by omega, by omega⟩]
     simp only [Int.toNat_natCast, yac, htk]
     have hd1 : l.drop ((lo l e.ID).length + 1) = b := by rw [← List.drop_drop, hdk]; rfl
     rw [hd1]
     rfl
def fld (l0 : List Thing) : List Thing → List Event → List Thing × Bool
 | l, [] => (l, true)
 | l, e :: es => if (stp l e).2 then fld l0 (stp l e).1 es else (l0, false)
theorem fold_l {n : Nat} {a0 : List Thing} (h0 : a0.length ≤ 1000) (es : List Event) (hes : es.length ≤ 5000) (hn : 10000 ≤ n) : ∀ (m i : Nat) (l : List Thing), i ≤ es.length → es.length - i < m → Ris l → l.length + (es.length - i) ≤ 10000 →
  F58_l11 n a0 es m l true (i : Int) = some (fld a0 l (es.drop i)) := by
 intro m
 induction m with
 | zero => intro i l _ h; omega
 | succ m ih =>
  intro i l hi hm hr hl
  unfold F58_l11
  by_cases h : i < es.length
  ·rw [if_pos (zbl h), ixg es i h, yac, step_eq hr (by omega) (by omega), yac, dropS es i h, fld]
   obtain ⟨g1, g2, _⟩ := zfx hr es[i]
   cases hb : (stp l es[i]).2 with
   | true =>
    simp only [ybb, yad, if_false, if_true]
    rw [zbz (by simp only [maxLen]; omega)]
    exact ih (i + 1) _ (by omega) (by omega) g1 (by omega)
   | false =>
    simp only [Bool.not_false, if_true, yad, if_false]
    unfold F58_j16
    simp only [Bool.not_false, if_true]
    rw [clone_eq (by omega)]
    rfl
  ·rw [if_neg (by rw [zbr h]; decide), ybc (by omega), fld]
   rfl
theorem fold_eq {n : Nat} {l : List Thing} (es : List Event) (h0 : l.length ≤ 1000) (hes : es.length ≤ 5000) (hn : 10000 ≤ n) (hr : Ris l) : F58 n l es = some (fld l l es) := by
 unfold F58
 rw [clone_eq (by omega)]
 exact fold_l h0 es hes hn (n + 8) 0 l (by omega) (by omega) hr (by omega)
theorem hs_ne {m : Int} (h : (Lit.int .u8 m).wf = true) : (zav .and .u8 (shrI .u8 m 1) 1 != 0) = hs m 1 ∧ (zav .and .u8 (shrI .u8 m 2) 1 != 0) = hs m 2 ∧ (zav .and .u8 (shrI .u8 m 3) 1 != 0) = hs m 3 ∧ (zav .and .u8 (shrI .u8 m 4) 1 != 0) = hs m 4 := by
 obtain ⟨h1, h2, h3, h4⟩ := hs_no h
 simp only [bne, h1, h2, h3, h4, Bool.not_not, and_self]
theorem rapp_eq (n : Nat) (t : Thing) (d : Delta) (h : (Lit.int .u8 d.Mask).wf = true) : F89 n t d = some (app t d) := by
 obtain ⟨h1, h2, h3, h4⟩ := hs_ne h
 unfold F89 F89_j2 F89_u4 F89_u6 F89_u8 F89_u10 app a1
 rw [h1, h2, h3, h4]
 generalize ((zav .and .u8 d.Mask 1) != 0) = eA
 generalize hs d.Mask 1 = e0
 generalize hs d.Mask 2 = e1
 generalize hs d.Mask 3 = e2
 generalize hs d.Mask 4 = e3
 cases eA <;> cases e0 <;> cases e1 <;> cases e2 <;> cases e3 <;> rfl
def atF (x : Int) : List Thing → Nat → Int
 | [], _ => -1
 | t :: l, i => if t.ID == x then (i : Int) else atF x l (i + 1)
theorem at_l (n : Nat) (l : List Thing) (x : Int) (hl : l.length ≤ 100000) : ∀ (m i : Nat), i ≤ l.length → l.length - i < m → F87_l4 n l x m (i : Int) = some (atF x (l.drop i) i)
 | 0, i, _, h => by omega
 | m + 1, i, hi, h => by
  unfold F87_l4
  by_cases hlt : i < l.length
  ·rw [if_pos (zbl hlt), ixg l i hlt, dropS l i hlt, atF, yac]
   split
   ·rfl
   ·rw [zbz (by simp only [maxLen]; omega)]
    exact at_l n l x hl m (i + 1) (by omega) (by omega)
  ·rw [if_neg (by rw [zbr hlt]; decide), ybc (by omega)]; rfl
theorem atF_lo (x : Int) (b : List Thing) : ∀ (a : List Thing) (k : Nat), (∀ t ∈ a, t.ID < x) → atF x (a ++ b) k = atF x b (k + a.length)
 | [], k, _ => rfl
 | t :: a, k, h => by
  have ht := h t ybo
  rw [List.cons_append, atF, if_neg (by simp; omega), atF_lo x b a (k + 1) fun u hu => h u (yat _ hu), yaq]
  congr 1; omega
theorem atF_no (x : Int) : ∀ (b : List Thing) (k : Nat), (∀ t ∈ b, x < t.ID) → atF x b k = -1
 | [], k, _ => rfl
 | t :: b, k, h => by
  have ht := h t ybo
  rw [atF, if_neg (by simp; omega), atF_no x b (k + 1) fun u hu => h u (yat _ hu)]
theorem at_eq {n : Nat} {l : List Thing} (hr : Ris l) (hl : l.length ≤ 100000) (hn : l.length ≤ n) (x : Int) : F87 n l x = some (if has (hi l x) x then ((lo l x).length : Int) else -1) := by
 have h : F87 n l x = some (atF x (l.drop 0) 0) := at_l n l x hl (n + 8) 0 (by omega) (by omega)
 rw [ycc] at h
 rw [h]
 conv => lhs; rw [← lohi l x]
 rw [atF_lo x _ _ 0 (lo_lt l x), ybk]
 cases hh : has (hi l x) x with
 | false => rw [atF_no x _ _ (has_no (ris_hi hr x) (hi_ge hr x) hh)]; rfl
 | true =>
  obtain ⟨u, b, hb, hu⟩ := has_yes hh
  rw [hb, atF, if_pos (by simp [hu])]; rfl
def wiF (t : Thing) : List Thing → List Thing → Bool → List Thing
 | [], out, d => if d then out else out ++ [t]
 | u :: l, out, d =>
  let o1 := if d then out else if t.ID ≤ u.ID then out ++ [t] else out
  wiF t l (if u.ID != t.ID then o1 ++ [u] else o1) (d || decide (t.ID ≤ u.ID))
theorem wi_l (n : Nat) (l : List Thing) (t : Thing) (hl : l.length ≤ 50000) : ∀ (m i : Nat) (out : List Thing) (d : Bool), i ≤ l.length → l.length - i < m → out.length ≤ i + 1 → (d = false → out.length ≤ i) → zcc n l t m out d (i : Int) = some (wiF t (l.drop i) out d)
 | 0, i, _, _, _, h, _, _ => by omega
 | m + 1, i, out, d, hi, h, ho, hd => by
  have hmc : (100000 : Nat) * 200 ≤ zae := by simp only [zae]; decide
  unfold zcc
  by_cases hlt : i < l.length
  ·have step : ∀ (o : List Thing) (dd : Bool), o.length ≤ i + 1 → (dd = false → o.length ≤ i) → zfo n l t (i : Int) (zcc n l t m) o dd = some (wiF t (l.drop (i + 1)) (if l[i].ID != t.ID then o ++ [l[i]] else o) dd) := by
    intro o dd h1 h2
    unfold zfo
    rw [ixg l i hlt]
    simp only [yac]
    by_cases hx : (l[i].ID != t.ID) = true
    ·rw [if_pos hx, if_pos hx, if_pos ⟨by omega, by omega⟩, zbz (by simp only [maxLen]; omega)]
     exact wi_l n l t hl m (i + 1) _ dd (by omega) (by omega) (by rw [yae]; simp; omega) (fun q => by rw [yae]; have := h2 q; simp; omega)
    ·rw [if_neg hx, if_neg hx, zbz (by simp only [maxLen]; omega)]
     exact wi_l n l t hl m (i + 1) o dd (by omega) (by omega) (by omega) (fun q => by have := h2 q; omega)
   rw [if_pos (zbl hlt), dropS l i hlt, wiF, ixg l i hlt]
   cases d with
   | true =>
    simp only [ybb, yad, if_false, if_true, Bool.true_or]
    exact step out true ho (fun q => by cases q)
   | false =>
    simp only [Bool.not_false, yad, if_false, if_true, Bool.false_or, yac]
    have := hd rfl
    by_cases hx : t.ID ≤ l[i].ID
    ·rw [if_pos (decide_eq_true hx), if_pos hx, if_pos ⟨by omega, by omega⟩, decide_eq_true hx]
     exact step _ true (by rw [yae]; simp; omega) (fun q => by cases q)
    ·rw [if_neg (by simp; omega), if_neg hx, decide_eq_false hx]
     exact step _ false ho hd
  ·rw [if_neg (by rw [zbr hlt]; decide), ybc (by omega), wiF]
   cases d with
   | true => rfl
   | false =>
    simp only [Bool.not_false, yad, if_false, if_true]
    rw [if_pos ⟨by omega, by omega⟩]
theorem wiF_done (t : Thing) : ∀ (l out : List Thing), wiF t l out true = out ++ l.filter fun u => u.ID != t.ID
 | [], out => by simp [wiF]
 | u :: l, out => by
  rw [wiF]
  simp only [if_true, Bool.true_or]
  rw [wiF_done t l]
  cases h : (u.ID != t.ID) with
  | true => simp [h]
  | false => simp [h]
theorem wiF_is (t : Thing) (b : List Thing) (hb : ∀ u ∈ b, t.ID ≤ u.ID) : ∀ (a out : List Thing), (∀ u ∈ a, u.ID < t.ID) → wiF t (a ++ b) out false = out ++ a ++ t :: b.filter fun u => u.ID != t.ID
 | [], out, _ => by
  cases b with
  | nil => simp [wiF]
  | cons u b =>
   have hu := hb u ybo
   rw [ybw, wiF]
   simp only [yad, if_false, if_pos hu, decide_eq_true hu, Bool.false_or]
   rw [wiF_done]
   cases h : (u.ID != t.ID) with
   | true => simp [h]
   | false => simp [h]
 | u :: a, out, h => by
  have hu := h u ybo
  have hne : (u.ID != t.ID) = true := by simp; omega
  have hno : ¬ t.ID ≤ u.ID := by omega
  rw [List.cons_append, wiF]
  simp only [yad, if_false, if_neg hno, decide_eq_false hno, Bool.false_or, hne, if_true]
  rw [wiF_is t b hb a _ fun v hv => h v (yat _ hv)]
  simp
theorem with_eq {n : Nat} {l : List Thing} (hr : Ris l) (hl : l.length ≤ 50000) (hn : l.length ≤ n) (t : Thing) : F88 n l t = some (lo l t.ID ++ t :: (hi l t.ID).filter fun u => u.ID != t.ID) := by
 have h : F88 n l t = some (wiF t (l.drop 0) [] false) := wi_l n l t hl (n + 8) 0 [] false (by omega) (by omega) (by simp) (by simp)
 rw [ycc] at h
 rw [h]
 conv => lhs; rw [← lohi l t.ID]
 rw [wiF_is t _ (hi_ge hr t.ID) _ [] (lo_lt l t.ID), ybw]
theorem wo_l (n : Nat) (l : List Thing) (x : Int) (hl : l.length ≤ 50000) : ∀ (m i : Nat) (out : List Thing), i ≤ l.length → l.length - i < m → out.length ≤ i → F90_l7 n l x m out (i : Int) = some (out ++ (l.drop i).filter fun u => u.ID != x)
 | 0, i, _, _, h, _ => by omega
 | m + 1, i, out, hi, h, ho => by
  have hmc : (100000 : Nat) * 200 ≤ zae := by simp only [zae]; decide
  unfold F90_l7
  by_cases hlt : i < l.length
  ·rw [if_pos (zbl hlt), dropS l i hlt, ixg l i hlt]
   simp only [yac]
   cases hx : (l[i].ID != x) with
   | true =>
    simp only [if_true]
    rw [if_pos ⟨by omega, by omega⟩, zbz (by simp only [maxLen]; omega), wo_l n l x hl m (i + 1) _ (by omega) (by omega) (by rw [yae]; simp; omega), List.filter_cons_of_pos (by simpa using hx)]
    simp
   | false =>
    simp only [yad, if_false]
    rw [zbz (by simp only [maxLen]; omega), wo_l n l x hl m (i + 1) _ (by omega) (by omega) (by omega), List.filter_cons_of_neg (by simpa using hx)]
  ·rw [if_neg (by rw [zbr hlt]; decide), ybc (by omega)]; simp
theorem without_eq {n : Nat} {l : List Thing} (hl : l.length ≤ 50000) (hn : l.length ≤ n) (x : Int) : F90 n l x = some (l.filter fun u => u.ID != x) := by
 have h : F90 n l x = some ([] ++ (l.drop 0).filter fun u => u.ID != x) := wo_l n l x hl (n + 8) 0 [] (by omega) (by omega) (by simp)
 rw [ycc, ybw] at h
 exact h
theorem filter_all {l : List Thing} {x : Int} (h : ∀ t ∈ l, t.ID ≠ x) : l.filter (fun u => u.ID != x) = l := by
 rw [List.filter_eq_self]; intro t ht; simp [h t ht]
theorem rstep_eq {n : Nat} {l : List Thing} (hr : Ris l) (hl : l.length ≤ 50000) (hn : l.length ≤ n) (e : Event) (hw : (Lit.int .u8 e.Delta.Mask).wf = true) : F76 n l e = some (stp l e) := by
 unfold F76 stp
 rw [at_eq hr (by omega) hn, rev_is n e hw]
 have hL := lohi l e.ID
 have hlen : l.length = (lo l e.ID).length + (hi l e.ID).length := by rw [← yae, hL]
 have hgt : ∀ {u : Thing} {b : List Thing}, hi l e.ID = u :: b → u.ID = e.ID → (b.filter fun u => u.ID != e.ID) = b := by
  intro u b hb hu
  have hrh := ris_hi hr e.ID
  rw [hb] at hrh
  exact filter_all fun t ht => by have := (List.pairwise_cons.1 hrh).1 t ht; omega
 simp only [yac]
 cases hE : isEv e with
 | false => rfl
 | true =>
  simp only [ybb, yad, Bool.true_eq_false, if_false]
  have hd : ∀ b : Bool, decide ((0 : Int) ≤ (if b = true then ((lo l e.ID).length : Int) else -1)) = b := by
   intro b; cases b with
   | true => simp
   | false => rfl
  rw [hd]
  cases hh : has (hi l e.ID) e.ID with
  | false =>
   cases h1 : (e.Kind == 1) with
   | false => rfl
   | true =>
    simp only [Bool.false_beq, ybb, yad, if_false, if_true]
    obtain ⟨_, hid⟩ := isEv_id hE h1
    rw [with_eq hr hl hn, ← hid, filter_all fun t ht => by have := has_no (ris_hi hr e.ID) (hi_ge hr e.ID) hh t ht; omega]
    rfl
  | true =>
   cases h1 : (e.Kind == 1) with
   | true => rfl
   | false =>
    simp only [Bool.true_beq, yad, if_false, if_true]
    obtain ⟨u, b, hb, hu⟩ := has_yes hh
    have hfb := hgt hb hu
    cases h2 : (e.Kind == 2) with
    | true =>
     simp only [if_true]
     have hk : (lo l e.ID).length < l.length := by rw [hb] at hlen; simp only [yaq] at hlen; omega
     have hdk : l.drop (lo l e.ID).length = hi l e.ID := by
      have := List.drop_left' (l₁ := lo l e.ID) (l₂ := hi l e.ID) rfl
      rw [hL] at this; exact this
     have hget : l[(lo l e.ID).length]'hk = u := by
      rw [hb] at hdk
      have h0 := congrArg List.head? hdk
      rw [List.head?_drop, List.head?_cons, yab hk] at h0
      exact Option.some.inj h0
     rw [ixg l _ hk, hget]
     simp only [yac, rapp_eq n u e.Delta hw]
     have hid : (app u e.Delta).ID = e.ID := hu
     rw [with_eq hr hl hn, hid, hb]
     rw [List.filter_cons_of_neg (by simp [hu]), hfb]
     rfl
    | false =>
     simp only [yad, if_false]
     rw [without_eq hl hn]
     have : (l.filter fun u => u.ID != e.ID) = lo l e.ID ++ b := by
      conv => lhs; rw [← hL]
      rw [List.filter_append, filter_all fun t ht => by have := lo_lt l e.ID t ht; omega, hb, List.filter_cons_of_neg (by simp [hu]), hfb]
     rw [this, hb]
     rfl
theorem rfold_l {n : Nat} {a0 : List Thing} (es : List Event) (hes : es.length ≤ 5000) (hw : ∀ e ∈ es, (Lit.int .u8 e.Delta.Mask).wf = true) (hn : 10000 ≤ n) : ∀ (m i : Nat) (l : List Thing), i ≤ es.length → es.length - i < m → Ris l → l.length + (es.length - i) ≤ 10000 →
  F61_l7 n a0 es m l (i : Int) = some (fld a0 l (es.drop i)) := by
 intro m
 induction m with
 | zero => intro i l _ h; omega
 | succ m ih =>
  intro i l hi hm hr hl
  unfold F61_l7
  by_cases h : i < es.length
  ·rw [if_pos (zbl h), ixg es i h, yac, rstep_eq hr (by omega) (by omega) _ (hw _ (ybq h)), yac, dropS es i h, fld]
   obtain ⟨g1, g2, _⟩ := zfx hr es[i]
   cases hb : (stp l es[i]).2 with
   | true =>
    simp only [ybb, yad, if_false, if_true]
    rw [zbz (by simp only [maxLen]; omega)]
    exact ih (i + 1) _ (by omega) (by omega) g1 (by omega)
   | false => rfl
  ·rw [if_neg (by rw [zbr h]; decide), ybc (by omega), fld]
theorem rfold_eq {n : Nat} {l : List Thing} (es : List Event) (h0 : l.length ≤ 1000) (hes : es.length ≤ 5000) (hw : ∀ e ∈ es, (Lit.int .u8 e.Delta.Mask).wf = true) (hn : 10000 ≤ n) (hr : Ris l) : F61 n l es = some (fld l l es) :=
 rfold_l es hes hw hn (n + 8) 0 l (by omega) (by omega) hr (by omega)
abbrev RV := View_vedetteref19
def kv (f : Frame) : Key × List Event := (Key.mk f.From f.Beat, f.Events)
def vOf (r : RV) : View := ⟨r.Client, r.Session, r.N, r.Beat, r.Start, r.L, r.Log, r.Wait.map kv⟩
def hasW (s b : Int) : List Frame → Bool
 | [] => false
 | f :: w => if s = f.From ∧ b = f.Beat then true else hasW s b w
def getW (s b : Int) : List Frame → List Event
 | [] => []
 | f :: w => if s = f.From ∧ b = f.Beat then f.Events else getW s b w
def cutW (s b : Int) : List Frame → List Frame
 | [] => []
 | f :: w => if s = f.From ∧ b = f.Beat then w else f :: cutW s b w
def ixW (s b : Int) : List Frame → Nat → Int
 | [], _ => -1
 | f :: w, i => if s = f.From ∧ b = f.Beat then (i : Int) else ixW s b w (i + 1)
theorem key_eq (s b : Int) (f : Frame) : (Key.mk s b = (kv f).1) ↔ (s = f.From ∧ b = f.Beat) := by
 unfold kv; simp
theorem mhas_kv (s b : Int) : ∀ w : List Frame, mhas (Key.mk s b) (w.map kv) = hasW s b w
 | [] => rfl
 | f :: w => by
  simp only [yan, mhas, hasW, key_eq]
  split
  ·rfl
  ·exact mhas_kv s b w
theorem mget_kv (s b : Int) : ∀ w : List Frame, mget (Key.mk s b) (w.map kv) = getW s b w
 | [] => rfl
 | f :: w => by
  simp only [yan, mget, getW, key_eq]
  split
  ·rfl
  ·exact mget_kv s b w
theorem mcut_kv (s b : Int) : ∀ w : List Frame, mcut (Key.mk s b) (w.map kv) = (cutW s b w).map kv
 | [] => rfl
 | f :: w => by
  simp only [yan, mcut, cutW, key_eq]
  split
  ·rfl
  ·rw [yan, mcut_kv s b w]
theorem mput_kv (f : Frame) : ∀ w : List Frame, hasW f.From f.Beat w = false → mput (Key.mk f.From f.Beat) f.Events (w.map kv) = (w ++ [f]).map kv
 | [], _ => rfl
 | g :: w, h => by
  simp only [hasW] at h
  split at h
  ·cases h
  ·rename_i hn
   simp only [yan, List.cons_append, mput, key_eq]
   rw [if_neg hn, mput_kv f w h]
theorem ixW_is (s b : Int) : ∀ (w : List Frame) (i : Nat), (hasW s b w = false ∧ ixW s b w i = -1) ∨
  (∃ (a c : List Frame) (f : Frame), w = a ++ f :: c ∧ hasW s b w = true ∧ ixW s b w i = ((i + a.length : Nat) : Int) ∧ getW s b w = f.Events ∧ cutW s b w = a ++ c)
 | [], i => .inl ⟨rfl, rfl⟩
 | f :: w, i => by
  by_cases h : s = f.From ∧ b = f.Beat
  ·exact .inr ⟨[], w, f, rfl, by rw [hasW, if_pos h], by rw [ixW, if_pos h]; rfl, by rw [getW, if_pos h], by rw [cutW, if_pos h]; rfl⟩
  ·rw [hasW, ixW, getW, cutW, if_neg h, if_neg h, if_neg h, if_neg h]
   rcases ixW_is s b w (i + 1) with ⟨h1, h2⟩ | ⟨a, c, g, h1, h2, h3, h4, h5⟩
   ·exact .inl ⟨h1, h2⟩
   ·exact .inr ⟨f :: a, c, g, by rw [h1]; rfl, h2, by rw [h3, yaq]; congr 1; omega, h4, by rw [h5]; rfl⟩
theorem at_l' (n : Nat) (r : RV) (s b : Int) (hl : r.Wait.length ≤ 100000) : ∀ (m i : Nat), i ≤ r.Wait.length → r.Wait.length - i < m → F47_l4 n r s b m (i : Int) = some (ixW s b (r.Wait.drop i) i, r)
 | 0, i, _, h => by omega
 | m + 1, i, hi, h => by
  unfold F47_l4
  by_cases hlt : i < r.Wait.length
  ·rw [if_pos (zbl hlt), ixg r.Wait i hlt, dropS r.Wait i hlt, ixW]
   simp only [yac]
   by_cases h1 : s = r.Wait[i].From
   ·rw [if_pos (by simp [h1])]
    by_cases h2 : b = r.Wait[i].Beat
    ·rw [if_pos (by simp [h2]), if_pos ⟨h1, h2⟩]
    ·rw [if_neg (by simp; omega), if_neg (fun q => h2 q.2), zbz (by simp only [maxLen]; omega)]
     exact at_l' n r s b hl m (i + 1) (by omega) (by omega)
   ·rw [if_neg (by simp; omega), if_neg (fun q => h1 q.1), zbz (by simp only [maxLen]; omega)]
    exact at_l' n r s b hl m (i + 1) (by omega) (by omega)
  ·rw [if_neg (by rw [zbr hlt]; decide), ybc (by omega)]; rfl
theorem at_eq' {n : Nat} (r : RV) (s b : Int) (hl : r.Wait.length ≤ 100000) (hn : r.Wait.length ≤ n) : F47 n r s b = some (ixW s b r.Wait 0, r) := by
 have h := at_l' n r s b hl (n + 8) 0 (by omega) (by omega)
 rw [ycc] at h
 exact h
theorem ix_dec (s b : Int) (w : List Frame) : decide ((0 : Int) ≤ ixW s b w 0) = hasW s b w ∧ decide (ixW s b w 0 < 0) = !(hasW s b w) := by
 rcases ixW_is s b w 0 with ⟨h1, h2⟩ | ⟨a, c, g, h1, h2, h3, h4, h5⟩
 ·rw [h1, h2]; decide
 ·rw [h2, h3]; exact ⟨by simp, by simp⟩
theorem zgm (s b : Int) : ∀ w : List Frame, hasW s b w = true → (cutW s b w).length + 1 = w.length
 | [], h => by cases h
 | f :: w, h => by
  rw [hasW] at h
  rw [cutW]
  split at h
  ·rename_i hh; rw [if_pos hh]; rfl
  ·rename_i hh; rw [if_neg hh, yaq, yaq, zgm s b w h]
theorem cut_mem (s b : Int) : ∀ (w : List Frame) (f : Frame), f ∈ cutW s b w → f ∈ w
 | [], _, h => h
 | g :: w, f, h => by
  rw [cutW] at h
  split at h
  ·exact yat _ h
  ·cases h with
   | head => exact ybo
   | tail _ h => exact yat _ (cut_mem s b w f h)
theorem get_mem (s b : Int) : ∀ (w : List Frame), hasW s b w = true → ∃ f ∈ w, f.From = s ∧ f.Beat = b ∧ getW s b w = f.Events
 | [], h => by cases h
 | g :: w, h => by
  rw [hasW] at h
  rw [getW]
  split at h
  ·rename_i hh; rw [if_pos hh]; exact ⟨g, ybo, hh.1.symm, hh.2.symm, rfl⟩
  ·rename_i hh
   rw [if_neg hh]
   obtain ⟨f, h1, h2⟩ := get_mem s b w h
   exact ⟨f, yat _ h1, h2⟩
theorem has_cut (s s' b : Int) (hs : s ≠ s') : ∀ w : List Frame, hasW s b (cutW s' b w) = hasW s b w
 | [] => rfl
 | f :: w => by
  rw [cutW]
  split
  ·rename_i hh
   rw [hasW, if_neg (fun q => hs (q.1.trans hh.1.symm))]
  ·rw [hasW, hasW, has_cut s s' b hs w]
theorem mem_has (w : List Frame) (f : Frame) (h : f ∈ w) : hasW f.From f.Beat w = true := by
 induction w with
 | nil => cases h
 | cons g w ih =>
  rw [hasW]
  cases h with
  | head => rw [if_pos ⟨rfl, rfl⟩]
  | tail _ h => split <;> first | rfl | exact ih h
def prc (b : Int) : Nat → Nat → List Thing → List Event → List Frame → List Thing × List Event × List Frame
 | 0, _, L, G, W => (L, G, W)
 | k + 1, s, L, G, W =>
  prc b k (s + 1) (if (fld L L (getW s b W)).2 then (fld L L (getW s b W)).1 else L) (if (fld L L (getW s b W)).2 then G ++ getW s b W else G) (cutW s b W)
def allW (b : Int) (k s : Nat) (W : List Frame) : Bool := match k with
 | 0 => true
 | k + 1 => hasW s b W && allW b k (s + 1) W
theorem zev (b : Int) (s' : Int) : ∀ (k s : Nat) (W : List Frame), s' < s → allW b k s (cutW s' b W) = allW b k s W
 | 0, _, _, _ => rfl
 | k + 1, s, W, h => by rw [allW, allW, has_cut _ _ _ (by omega), zev b s' k (s + 1) W (by omega)]
theorem prc_len (b : Int) : ∀ (k s : Nat) (L : List Thing) (G : List Event) (W : List Frame), allW b k s W = true → (prc b k s L G W).2.2.length + k = W.length
 | 0, _, _, _, _, _ => rfl
 | k + 1, s, L, G, W, h => by
  rw [allW, yag] at h
  rw [prc]
  have := prc_len b k (s + 1) (if (fld L L (getW s b W)).2 then (fld L L (getW s b W)).1 else L) (if (fld L L (getW s b W)).2 then G ++ getW s b W else G) (cutW s b W) (by rw [zev _ _ _ _ _ (by omega)]; exact h.2)
  have := zgm s b W h.1
  omega
theorem prc_mem (b : Int) : ∀ (k s : Nat) (L : List Thing) (G : List Event) (W : List Frame) (f : Frame), f ∈ (prc b k s L G W).2.2 → f ∈ W
 | 0, _, _, _, _, f, h => h
 | k + 1, s, L, G, W, f, h => cut_mem s b W f (prc_mem b k (s + 1) _ _ _ f h)
def Uniq : List Frame → Prop
 | [] => True
 | f :: w => hasW f.From f.Beat w = false ∧ Uniq w
theorem has_cut_le (s b s' b' : Int) : ∀ w : List Frame, hasW s b (cutW s' b' w) = true → hasW s b w = true
 | [], h => h
 | f :: w, h => by
  rw [cutW] at h
  rw [hasW]
  split at h
  ·split
   ·rfl
   ·exact h
  ·rw [hasW] at h
   split at h
   ·rename_i q; rw [if_pos q]
   ·rename_i q; rw [if_neg q]; exact has_cut_le s b s' b' w h
theorem cut_uniq (s b : Int) : ∀ w : List Frame, Uniq w → Uniq (cutW s b w)
 | [], h => h
 | f :: w, h => by
  rw [cutW]
  split
  ·exact h.2
  ·refine ⟨?_, cut_uniq s b w h.2⟩
   cases hh : hasW f.From f.Beat (cutW s b w) with
   | false => rfl
   | true => have := has_cut_le _ _ _ _ w hh; rw [h.1] at this; cases this
theorem cut_no (s b : Int) : ∀ w : List Frame, Uniq w → hasW s b (cutW s b w) = false
 | [], h => rfl
 | f :: w, h => by
  rw [cutW]
  split
  ·rename_i q; rw [q.1, q.2]; exact h.1
  ·rename_i q; rw [hasW, if_neg q]; exact cut_no s b w h.2
theorem uniq_add (f : Frame) : ∀ w : List Frame, Uniq w → hasW f.From f.Beat w = false → Uniq (w ++ [f])
 | [], _, _ => ⟨rfl, trivial⟩
 | g :: w, h, hf => by
  rw [hasW] at hf
  split at hf
  ·cases hf
  ·rename_i q
   refine ⟨?_, uniq_add f w h.2 hf⟩
   have : ∀ w : List Frame, hasW g.From g.Beat w = false → hasW g.From g.Beat (w ++ [f]) = false := by
    intro w
    induction w with
    | nil => intro _; show hasW _ _ [f] = false; rw [hasW, if_neg (fun e => q ⟨e.1.symm, e.2.symm⟩)]; rfl
    | cons x w ih =>
     intro hx
     rw [hasW] at hx
     rw [List.cons_append, hasW]
     split at hx
     ·cases hx
     ·rename_i q2; rw [if_neg q2]; exact ih hx
   exact this w h.1
theorem prc_uniq (b : Int) : ∀ (k s : Nat) (L : List Thing) (G : List Event) (W : List Frame), Uniq W → Uniq (prc b k s L G W).2.2
 | 0, _, _, _, _, h => h
 | k + 1, s, L, G, W, h => prc_uniq b k (s + 1) _ _ _ (cut_uniq s b W h)
theorem prc_has_le (b : Int) (s' b' : Int) : ∀ (k s : Nat) (L : List Thing) (G : List Event) (W : List Frame), hasW s' b' (prc b k s L G W).2.2 = true → hasW s' b' W = true
 | 0, _, _, _, _, h => h
 | k + 1, s, L, G, W, h => has_cut_le _ _ _ _ W (prc_has_le b s' b' k (s + 1) _ _ _ h)
theorem prc_no (b : Int) : ∀ (k s : Nat) (L : List Thing) (G : List Event) (W : List Frame), Uniq W → ∀ j : Nat, s ≤ j → j < s + k → hasW j b (prc b k s L G W).2.2 = false
 | 0, _, _, _, _, _, j, h1, h2 => by omega
 | k + 1, s, L, G, W, h, j, h1, h2 => by
  by_cases hj : j = s
  ·subst hj
   cases hh : hasW j b (prc b (k + 1) j L G W).2.2 with
   | false => rfl
   | true =>
    have := prc_has_le b j b k (j + 1) _ _ _ hh
    rw [cut_no j b W h] at this; cases this
  ·exact prc_no b k (s + 1) _ _ _ (cut_uniq s b W h) j (by omega) (by omega)
def maxI : Int := 9223372036854775807
structure Fok (k : Nat) (beat start : Int) (f : Frame) : Prop where
 lt : beat < f.Beat
 st : start ≤ f.Beat
 hi : f.Beat ≤ maxI
 f0 : 0 ≤ f.From
 f1 : f.From < k
 ev : f.Events.length ≤ 20
 ms : ∀ e ∈ f.Events, (Lit.int .u8 e.Delta.Mask).wf = true
structure Good (k c : Nat) (beat start : Int) (L : List Thing) (G : List Event) (W : List Frame) : Prop where
 k0 : 1 ≤ k
 k1 : k ≤ 4
 c1 : c ≤ 50
 bs : beat = -1 ∨ start ≤ beat
 s0 : 0 ≤ start
 bh : beat ≤ maxI
 uq : Uniq W
 fs : ∀ f ∈ W, Fok k beat start f
 rs : Ris L
 ll : L.length + 20 * W.length ≤ 20 * c
 gl : G.length + 20 * W.length ≤ 20 * c
theorem fld_ris {L : List Thing} (hr : Ris L) : ∀ (es : List Event) (l : List Thing), Ris l → Ris (fld L l es).1
 | [], l, h => h
 | e :: es, l, h => by
  unfold fld
  split
  ·exact fld_ris hr es _ (zfx h e).1
  ·exact hr
theorem fld_len {L : List Thing} (hr : Ris L) (k : Nat) (hk : L.length ≤ k) : ∀ (es : List Event) (l : List Thing), Ris l → l.length + es.length ≤ k → (fld L l es).1.length ≤ k
 | [], l, _, h => by simpa [fld] using h
 | e :: es, l, hl, h => by
  simp only [yaq] at h
  unfold fld
  split
  ·have := (zfx hl e).2.1
   exact fld_len hr k hk es _ (zfx hl e).1 (by omega)
  ·exact hk
theorem one_step {L : List Thing} {G : List Event} {e : List Event} (hr : Ris L) (x y : Nat) (hx : L.length + 20 ≤ x) (hy : G.length + 20 ≤ y) (he : e.length ≤ 20) :
  Ris (if (fld L L e).2 then (fld L L e).1 else L) ∧ (if (fld L L e).2 then (fld L L e).1 else L).length ≤ x ∧ (if (fld L L e).2 then G ++ e else G).length ≤ y := by
 have h1 := fld_ris hr e L hr
 have h2 := fld_len hr x (by omega) e L hr (by omega)
 split
 ·exact ⟨h1, h2, by rw [yae]; omega⟩
 ·exact ⟨hr, by omega, by omega⟩
theorem folds_eq {n : Nat} (hn : 10000 ≤ n) (v : View) (e : List Event) (hr : Ris v.things) (hl : v.things.length ≤ 1000) (hg : v.log_.length ≤ 1000) (he : e.length ≤ 20) :
  F46 n v e = some ⟨v.client, v.session, v.n, v.beat, v.start, if (fld v.things v.things e).2 then (fld v.things v.things e).1 else v.things, if (fld v.things v.things e).2 then v.log_ ++ e else v.log_, v.wait⟩ := by
 unfold F46
 rw [fold_eq e hl (by omega) hn hr]
 simp only [yac]
 cases (fld v.things v.things e).2 with
 | false => rfl
 | true =>
  simp only [ybb, yad, if_false, if_true]
  rw [if_pos ⟨by simp only [zae]; omega, by simp only [zae]; omega⟩]
theorem check_p {n : Nat} (C S beat start : Int) (L : List Thing) (G : List Event) (W : List Frame) (k : Nat) (hk : k ≤ 4) (b : Int) (hb : imax (IntKind.wrap .i64 (beat + 1)) start = b) (rec_ : Int → Int → Int → Int → Int → List Thing → List Event → List (Key × List Event) → Option (Bool × View)) :
  ∀ (m s : Nat), s ≤ k → k - s < m → F15_l31 n C S k beat start L G (W.map kv) rec_ m (s : Int) =
   if allW b (k - s) s W then zfs n k beat start rec_ (n + 8) 0 C S k beat start L G (W.map kv) else some (true, ⟨C, S, k, beat, start, L, G, W.map kv⟩)
 | 0, s, _, h => by omega
 | m + 1, s, hs, h => by
  unfold F15_l31
  rw [hb, mhas_kv]
  by_cases hlt : s < k
  ·rw [if_pos (zbl hlt), show k - s = (k - (s + 1)) + 1 by omega, allW]
   cases hh : hasW s b W with
   | false => rfl
   | true =>
    simp only [ybb, yad, if_false, ybf]
    rw [zbz (by simp only [maxLen]; omega)]
    exact check_p C S beat start L G W k hk b hb rec_ m (s + 1) (by omega) (by omega)
  ·rw [if_neg (by rw [zbr hlt]; decide), show k - s = 0 by omega, allW]; rfl
theorem proc_p {n : Nat} (hn : 10000 ≤ n) (C S beat start beat0 start0 : Int) (k c : Nat) (hk : k ≤ 4) (hc : c ≤ 50) (b : Int) (hb : imax (IntKind.wrap .i64 (beat + 1)) start = b) (rec_ : Int → Int → Int → Int → Int → List Thing → List Event → List (Key × List Event) → Option (Bool × View)) :
  ∀ (m s : Nat) (L : List Thing) (G : List Event) (W : List Frame), s ≤ k → k - s < m → allW b (k - s) s W = true → (∀ f ∈ W, f.Events.length ≤ 20) → Ris L → L.length + 20 * W.length ≤ 20 * c → G.length + 20 * W.length ≤ 20 * c →
   zfs n k beat start rec_ m (s : Int) C S k beat0 start0 L G (W.map kv) =
    rec_ C S k b start0 (prc b (k - s) s L G W).1 (prc b (k - s) s L G W).2.1 ((prc b (k - s) s L G W).2.2.map kv)
 | 0, s, _, _, _, _, h, _, _, _, _, _ => by omega
 | m + 1, s, L, G, W, hs, h, ha, hf, hr, hl, hg => by
  unfold zfs
  rw [hb]
  by_cases hlt : s < k
  ·rw [show k - s = (k - (s + 1)) + 1 by omega] at ha ⊢
   rw [allW, yag] at ha
   have hw := zgm s b W ha.1
   obtain ⟨f, hfm, _, _, hfe⟩ := get_mem s b W ha.1
   have he : (getW s b W).length ≤ 20 := by rw [hfe]; exact hf f hfm
   rw [if_pos (zbl hlt), mget_kv, folds_eq hn _ _ hr (by show L.length ≤ 1000; omega) (by show G.length ≤ 1000; omega) he]
   simp only [yac, mcut_kv]
   rw [zbz (by simp only [maxLen]; omega), prc]
   obtain ⟨o1, o2, o3⟩ := one_step (G := G) hr (20 * c - 20 * (cutW s b W).length) (20 * c - 20 * (cutW s b W).length) (by omega) (by omega) he
   exact proc_p hn C S beat start beat0 start0 k c hk hc b hb rec_ m (s + 1) _ _ _ (by omega) (by omega) (by rw [zev _ _ _ _ _ (by omega)]; exact ha.2)
    (fun f hf' => hf f (cut_mem _ _ _ _ hf')) o1 (by omega) (by omega)
  ·rw [if_neg (by rw [zbr hlt]; decide), show k - s = 0 by omega]; rfl
theorem check_r {n : Nat} (C S start beat : Int) (L : List Thing) (G : List Event) (W : List Frame) (hW : W.length ≤ 1000) (hn : 10000 ≤ n) (k : Nat) (hk : k ≤ 4) (b : Int) :
  ∀ (m s : Nat), s ≤ k → k - s < m → F49_l30 n b m (s : Int) C S k start beat L G W =
   if allW b (k - s) s W then zcd n b (n + 8) 0 C S k start beat L G W else some (false, ⟨C, S, k, start, beat, L, G, W⟩)
 | 0, s, _, h => by omega
 | m + 1, s, hs, h => by
  unfold F49_l30
  by_cases hlt : s < k
  ·rw [if_pos (zbl hlt), show k - s = (k - (s + 1)) + 1 by omega, allW, at_eq' _ _ _ (by show W.length ≤ 100000; omega) (by show W.length ≤ n; omega)]
   simp only [yac, (ix_dec s b W).2]
   cases hh : hasW s b W with
   | false => rfl
   | true =>
    simp only [ybb, yad, if_false, ybf]
    rw [zbz (by simp only [maxLen]; omega)]
    exact check_r C S start beat L G W hW hn k hk b m (s + 1) (by omega) (by omega)
  ·rw [if_neg (by rw [zbr hlt]; decide), show k - s = 0 by omega, allW]; rfl
theorem cut_r {α : Type} (n : Nat) (i : Int) (a c : List Frame) (f : Frame) (hl : a.length + c.length ≤ 1000) (r : RV) (hr : r.Wait = a ++ f :: c) (L : List Thing) (G : List Event)
  (rec_ : Int → Int → Int → Int → Int → Int → List Thing → List Event → List Frame → Option (Bool × RV)) :
  zfp n i ((a.length : Int), r) rec_ L G = rec_ (IntKind.wrap .i64 (i + 1)) r.Client r.Session r.N r.Start r.Beat L G (a ++ c) := by
 unfold zfp
 have hlen : (a ++ f :: c).length = a.length + c.length + 1 := by rw [yae, yaq]; omega
 have e1 : ((a ++ f :: c).drop (0 + 0)).take ((a.length : Int).toNat - 0) = a := by simp
 have e2 : IntKind.wrap .i64 ((a.length : Int) + 1) = ((a.length + 1 : Nat) : Int) := zbz (by simp only [maxLen]; omega)
 have e3 : ((a ++ f :: c).drop (0 + (((a.length + 1 : Nat) : Int)).toNat)).take ((a ++ f :: c).length - (((a.length + 1 : Nat) : Int)).toNat) = c := by
  have h1 : (0 + (((a.length + 1 : Nat) : Int)).toNat) = a.length + 1 := by omega
  rw [h1, List.drop_append, ybc (by omega), show a.length + 1 - a.length = 1 by omega, List.drop_succ_cons, ycc, ybw]
  exact ybu (by rw [hlen]; omega)
 rw [hlen] at e3
 simp only [hr, e1, e2, hlen, e3]
 rw [if_pos ⟨by omega, by omega, by omega⟩, if_pos ⟨by omega, by simp only [zae]; omega, by simp only [zae]; omega⟩, if_pos ⟨by omega, by omega, by omega⟩, if_pos ⟨by omega, by simp only [zae]; omega, by simp only [zae]; omega⟩]
theorem proc_r {n : Nat} (hn : 10000 ≤ n) (C S start beat : Int) (k c : Nat) (hk : k ≤ 4) (hc : c ≤ 50) (b : Int) :
  ∀ (m s : Nat) (L : List Thing) (G : List Event) (W : List Frame), s ≤ k → k - s < m → allW b (k - s) s W = true → (∀ f ∈ W, f.Events.length ≤ 20 ∧ ∀ e ∈ f.Events, (Lit.int .u8 e.Delta.Mask).wf = true) → Ris L → L.length + 20 * W.length ≤ 20 * c → G.length + 20 * W.length ≤ 20 * c →
   zcd n b m (s : Int) C S k start beat L G W =
    some (true, ⟨C, S, k, start, b, (prc b (k - s) s L G W).1, (prc b (k - s) s L G W).2.1, (prc b (k - s) s L G W).2.2⟩)
 | 0, s, _, _, _, _, h, _, _, _, _, _ => by omega
 | m + 1, s, L, G, W, hs, h, ha, hf, hr, hl, hg => by
  unfold zcd
  by_cases hlt : s < k
  ·rw [show k - s = (k - (s + 1)) + 1 by omega] at ha ⊢
   rw [allW, yag] at ha
   have hw := zgm s b W ha.1
   rw [if_pos (zbl hlt), at_eq' _ _ _ (by show W.length ≤ 100000; omega) (by show W.length ≤ n; omega)]
   rcases ixW_is s b W 0 with ⟨h1, _⟩ | ⟨x, y, f, h1, h2, h3, h4, h5⟩
   ·rw [h1] at ha; cases ha.1
   ·have hfm : f ∈ W := by rw [h1]; simp
    obtain ⟨he, hm⟩ := hf f hfm
    have hxl : x.length + y.length + 1 = W.length := by rw [h1, yae, yaq]; omega
    rw [ybk] at h3
    have hix : ix W (x.length : Int) = some f := by
     rw [ixg W x.length (by omega)]
     have : W[x.length]'(by omega) = f := by simp [h1]
     rw [this]
    have hjoin : ∀ (L' : List Thing) (G' : List Event), zfp n (s : Int) ((x.length : Int), ⟨C, S, k, start, beat, L, G, W⟩) (zcd n b m) L' G' =
      zcd n b m ((s + 1 : Nat) : Int) C S k start beat L' G' (cutW s b W) := by
     intro L' G'
     rw [cut_r (α := Unit) n s x y f (by omega) ⟨C, S, k, start, beat, L, G, W⟩ h1 L' G', zbz (by simp only [maxLen]; omega), h5]
    simp only [yac, h3, hix]
    rw [rfold_eq f.Events (by omega) (by omega) hm hn hr, prc, h4]
    simp only [yac, hjoin]
    have he' : (getW s b W).length ≤ 20 := by rw [h4]; exact he
    obtain ⟨o1, o2, o3⟩ := one_step (G := G) (e := f.Events) hr (20 * c - 20 * (cutW s b W).length) (20 * c - 20 * (cutW s b W).length) (by omega) (by omega) he
    have ih := proc_r hn C S start beat k c hk hc b m (s + 1) (if (fld L L f.Events).2 then (fld L L f.Events).1 else L) (if (fld L L f.Events).2 then G ++ f.Events else G) (cutW s b W) (by omega) (by omega) (by rw [zev _ _ _ _ _ (by omega)]; exact ha.2)
     (fun f hf' => hf f (cut_mem _ _ _ _ hf')) o1 (by omega) (by omega)
    cases hb : (fld L L f.Events).2 with
    | true =>
     rw [hb] at ih
     simp only [if_true] at ih ⊢
     rw [if_pos ⟨by simp only [zae]; omega, by simp only [zae]; omega⟩]
     exact ih
    | false =>
     rw [hb] at ih
     simp only [yad, if_false] at ih ⊢
     exact ih
  ·rw [if_neg (by rw [zbr hlt]; decide), show k - s = 0 by omega]; rfl
theorem wrap_id {x : Int} (h0 : -9223372036854775808 ≤ x) (h1 : x ≤ 9223372036854775807) : IntKind.wrap .i64 x = x := by
 simp [IntKind.wrap, IntKind.bits, IntKind.signed]; omega
theorem anyV_l (n : Nat) (l : List Event) (hl : l.length ≤ 100000) : ∀ (m i : Nat), i ≤ l.length → l.length - i < m →
  ∃ r : Int, zdt n l m (i : Int) = some r ∧ decide (0 ≤ r) = !((l.drop i).all isEv)
 | 0, i, _, h => by omega
 | m + 1, i, hi, hm => by
  unfold zdt
  by_cases h : i < l.length
  ·rw [if_pos (zbl h), ixg l i h, dropS l i h]
   unfold F56
   simp only [yac, ev_is, yby]
   cases hE : isEv l[i] with
   | false => exact ⟨(i : Int), rfl, by simp⟩
   | true =>
    simp only [ybb, yad, if_false, ybf]
    rw [zbz (by simp only [maxLen]; omega)]
    exact anyV_l n l hl m (i + 1) (by omega) (by omega)
  ·rw [if_neg (by rw [zbr h]; decide), ybc (by omega)]
   exact ⟨-1, rfl, rfl⟩
theorem anyV {n : Nat} {l : List Event} (hl : l.length ≤ 100000) (hn : l.length ≤ n) : F55s0 n l = some (!(l.all isEv)) := by
 unfold F55s0 F71s0
 obtain ⟨r, h1, h2⟩ := anyV_l n l hl (n + 8) 0 (by omega) (by omega)
 rw [ycc] at h2
 have h1' : zdt n l (n + 8) 0 = some r := h1
 rw [h1', yac, h2]
def nxt (beat start : Int) : Int := if beat < 0 then start else beat + 1
def goS (k : Nat) : Nat → Int → Int → List Thing → List Event → List Frame → Int × List Thing × List Event × List Frame
 | 0, beat, _, L, G, W => (beat, L, G, W)
 | m + 1, beat, start, L, G, W =>
  if allW (nxt beat start) k 0 W then
   goS k m (nxt beat start) start (prc (nxt beat start) k 0 L G W).1 (prc (nxt beat start) k 0 L G W).2.1 (prc (nxt beat start) k 0 L G W).2.2
  else (beat, L, G, W)
theorem goS_same (k : Nat) (hk : 1 ≤ k) : ∀ (m m' : Nat) (beat start : Int) (L : List Thing) (G : List Event) (W : List Frame), W.length < m → W.length < m' → goS k m beat start L G W = goS k m' beat start L G W
 | 0, _, _, _, _, _, _, h, _ => by omega
 | _, 0, _, _, _, _, _, _, h => by omega
 | m + 1, m' + 1, beat, start, L, G, W, h, h' => by
  rw [goS, goS]
  cases ha : allW (nxt beat start) k 0 W with
  | false => rfl
  | true =>
   have := prc_len (nxt beat start) k 0 L G W ha
   simp only [if_true]
   exact goS_same k hk m m' _ _ _ _ _ (by omega) (by omega)
theorem prc_keep (b : Int) (c : Nat) : ∀ (k s : Nat) (L : List Thing) (G : List Event) (W : List Frame), allW b k s W = true → (∀ f ∈ W, f.Events.length ≤ 20) → Ris L → L.length + 20 * W.length ≤ 20 * c → G.length + 20 * W.length ≤ 20 * c →
  Ris (prc b k s L G W).1 ∧ (prc b k s L G W).1.length + 20 * (prc b k s L G W).2.2.length ≤ 20 * c ∧ (prc b k s L G W).2.1.length + 20 * (prc b k s L G W).2.2.length ≤ 20 * c
 | 0, _, _, _, _, _, _, hr, hl, hg => ⟨hr, hl, hg⟩
 | k + 1, s, L, G, W, ha, hf, hr, hl, hg => by
  rw [allW, yag] at ha
  have hw := zgm s b W ha.1
  obtain ⟨f, hfm, _, _, hfe⟩ := get_mem s b W ha.1
  have he : (getW s b W).length ≤ 20 := by rw [hfe]; exact hf f hfm
  obtain ⟨o1, o2, o3⟩ := one_step (G := G) hr (20 * c - 20 * (cutW s b W).length) (20 * c - 20 * (cutW s b W).length) (by omega) (by omega) he
  exact prc_keep b c k (s + 1) _ _ _ (by rw [zev _ _ _ _ _ (by omega)]; exact ha.2) (fun f hf' => hf f (cut_mem _ _ _ _ hf')) o1 (by omega) (by omega)
theorem allW_at (b : Int) : ∀ (k s : Nat) (W : List Frame), allW b k s W = true → ∀ j : Nat, s ≤ j → j < s + k → hasW j b W = true
 | 0, _, _, _, j, h1, h2 => by omega
 | k + 1, s, W, h, j, h1, h2 => by
  rw [allW, yag] at h
  by_cases hj : j = s
  ·rw [hj]; exact h.1
  ·exact allW_at b k (s + 1) W h.2 j (by omega) (by omega)
theorem nxt_ge {beat start : Int} (h : beat = -1 ∨ start ≤ beat) (h0 : 0 ≤ start) : start ≤ nxt beat start ∧ 0 ≤ nxt beat start ∧ ∀ x, beat < x → start ≤ x → nxt beat start ≤ x := by
 unfold nxt
 split <;> refine ⟨by omega, by omega, fun x h1 h2 => by omega⟩
theorem Good.step {k c : Nat} {beat start : Int} {L : List Thing} {G : List Event} {W : List Frame} (h : Good k c beat start L G W) (ha : allW (nxt beat start) k 0 W = true) :
  Good k c (nxt beat start) start (prc (nxt beat start) k 0 L G W).1 (prc (nxt beat start) k 0 L G W).2.1 (prc (nxt beat start) k 0 L G W).2.2 := by
 obtain ⟨n1, n2, n3⟩ := nxt_ge h.bs h.s0
 obtain ⟨p1, p2, p3⟩ := prc_keep (nxt beat start) c k 0 L G W ha (fun f hf => (h.fs f hf).ev) h.rs h.ll h.gl
 have h0 := allW_at _ k 0 W ha 0 (by omega) (by have := h.k0; omega)
 obtain ⟨f0, f1, _, f2, _⟩ := get_mem _ _ W h0
 refine ⟨h.k0, h.k1, h.c1, .inr n1, h.s0, by rw [← f2]; exact (h.fs f0 f1).hi, prc_uniq _ _ _ _ _ _ h.uq, fun f hf => ?_, p1, p2, p3⟩
 have hfm := prc_mem _ _ _ _ _ _ f hf
 have hk := h.fs f hfm
 refine ⟨?_, hk.st, hk.hi, hk.f0, hk.f1, hk.ev, hk.ms⟩
 have hge := n3 f.Beat hk.lt hk.st
 by_cases he : f.Beat = nxt beat start
 ·have hm := mem_has _ f hf
  have hj := prc_no (nxt beat start) k 0 L G W h.uq f.From.toNat (by omega) (by have := hk.f0; have := hk.f1; omega)
  rw [show ((f.From.toNat : Nat) : Int) = f.From by have := hk.f0; omega, ← he, ] at hj
  rw [← he] at hm
  rw [hj] at hm; cases hm
 ·omega
theorem goS_good (k c : Nat) : ∀ (m : Nat) (beat start : Int) (L : List Thing) (G : List Event) (W : List Frame), Good k c beat start L G W →
  Good k c (goS k m beat start L G W).1 start (goS k m beat start L G W).2.1 (goS k m beat start L G W).2.2.1 (goS k m beat start L G W).2.2.2
 | 0, _, _, _, _, _, h => h
 | m + 1, beat, start, L, G, W, h => by
  rw [goS]
  cases ha : allW (nxt beat start) k 0 W with
  | false => exact h
  | true => exact goS_good k c m _ _ _ _ _ (h.step ha)
theorem allW_nil (b : Int) {k : Nat} (hk : 1 ≤ k) (s : Nat) : allW b k s [] = false := by
 cases k with
 | zero => omega
 | succ k => rfl
theorem next_p {k c : Nat} {beat start : Int} {L : List Thing} {G : List Event} {W : List Frame} (h : Good k c beat start L G W) :
  allW (imax (IntKind.wrap .i64 (beat + 1)) start) k 0 W = allW (nxt beat start) k 0 W ∧ (allW (nxt beat start) k 0 W = true → imax (IntKind.wrap .i64 (beat + 1)) start = nxt beat start) ∧
  (¬ beat < 0 → allW (IntKind.wrap .i64 (beat + 1)) k 0 W = allW (nxt beat start) k 0 W ∧ (allW (nxt beat start) k 0 W = true → IntKind.wrap .i64 (beat + 1) = nxt beat start)) := by
 cases W with
 | nil => rw [allW_nil _ h.k0, allW_nil _ h.k0, allW_nil _ h.k0]; exact ⟨rfl, fun e => (by cases e), fun _ => ⟨rfl, fun e => (by cases e)⟩⟩
 | cons f w =>
  have hf := h.fs f ybo
  have h1 := hf.lt; have h2 := hf.hi; have h3 := h.s0
  have hb : -1 ≤ beat := by rcases h.bs with h | h <;> omega
  have h2' : f.Beat ≤ 9223372036854775807 := h2
  have hw : IntKind.wrap .i64 (beat + 1) = beat + 1 := wrap_id (by omega) (by omega)
  have hn : imax (beat + 1) start = nxt beat start := by
   unfold imax nxt
   rcases h.bs with h | h
   ·subst h
    rw [if_pos (show (-1 : Int) < 0 by decide)]
    split <;> omega
   ·rw [if_neg (show ¬ start > beat + 1 by omega), if_neg (show ¬ beat < 0 by omega)]
  rw [hw, hn]
  refine ⟨rfl, fun _ => rfl, fun hneg => ?_⟩
  have : nxt beat start = beat + 1 := by unfold nxt; rw [if_neg hneg]
  rw [this]; exact ⟨rfl, fun _ => rfl⟩
theorem loop_p {n : Nat} (hn : 10000 ≤ n) (C S : Int) (k c : Nat) : ∀ (m : Nat) (beat start : Int) (L : List Thing) (G : List Event) (W : List Frame), W.length < m → Good k c beat start L G W →
  zcy n m C S k beat start L G (W.map kv) = some (true, ⟨C, S, k, (goS k m beat start L G W).1, start, (goS k m beat start L G W).2.1, (goS k m beat start L G W).2.2.1, (goS k m beat start L G W).2.2.2.map kv⟩)
 | 0, _, _, _, _, _, h, _ => by omega
 | m + 1, beat, start, L, G, W, h, hg => by
  unfold zcy
  obtain ⟨e1, e2, _⟩ := next_p hg
  have hc := check_p (n := n) C S beat start L G W k hg.k1 (imax (IntKind.wrap .i64 (beat + 1)) start) rfl (zcy n m) (n + 8) 0 (by omega) (by have := hg.k1; omega)
  rw [Nat.sub_zero, e1] at hc
  refine hc.trans ?_
  rw [goS]
  cases ha : allW (nxt beat start) k 0 W with
  | false => rfl
  | true =>
   simp only [if_true]
   have hp := proc_p hn C S beat start beat start k c hg.k1 hg.c1 (nxt beat start) (e2 ha) (zcy n m) (n + 8) 0 L G W (by omega) (by have := hg.k1; omega) (by rw [Nat.sub_zero]; exact ha) (fun f hf => (hg.fs f hf).ev) hg.rs hg.ll hg.gl
   rw [Nat.sub_zero] at hp
   refine hp.trans ?_
   have hl := prc_len (nxt beat start) k 0 L G W ha
   exact loop_p hn C S k c m _ _ _ _ _ (by have := hg.k0; omega) (hg.step ha)
theorem goes_eq {n : Nat} (hn : 10000 ≤ n) (C S : Int) (k c : Nat) (beat start : Int) (L : List Thing) (G : List Event) (W : List Frame) (hg : Good k c beat start L G W) :
  F49 n ⟨C, S, k, start, beat, L, G, W⟩ = some (allW (nxt beat start) k 0 W,
   if allW (nxt beat start) k 0 W then ⟨C, S, k, start, nxt beat start, (prc (nxt beat start) k 0 L G W).1, (prc (nxt beat start) k 0 L G W).2.1, (prc (nxt beat start) k 0 L G W).2.2⟩ else ⟨C, S, k, start, beat, L, G, W⟩) := by
 have hWl : W.length ≤ 1000 := by have := hg.ll; have := hg.c1; omega
 have key : ∀ b : Int, allW b k 0 W = allW (nxt beat start) k 0 W → (allW (nxt beat start) k 0 W = true → b = nxt beat start) →
   F49_j2 n ⟨C, S, k, start, beat, L, G, W⟩ b = some (allW (nxt beat start) k 0 W,
   if allW (nxt beat start) k 0 W then ⟨C, S, k, start, nxt beat start, (prc (nxt beat start) k 0 L G W).1, (prc (nxt beat start) k 0 L G W).2.1, (prc (nxt beat start) k 0 L G W).2.2⟩ else ⟨C, S, k, start, beat, L, G, W⟩) := by
  intro b hb hb2
  unfold F49_j2
  have hc := check_r C S start beat L G W hWl hn k hg.k1 b (n + 8) 0 (by omega) (by have := hg.k1; omega)
  rw [Nat.sub_zero, hb] at hc
  refine hc.trans ?_
  cases ha : allW (nxt beat start) k 0 W with
  | false => rfl
  | true =>
   simp only [if_true]
   have hp := proc_r hn C S start beat k c hg.k1 hg.c1 b (n + 8) 0 L G W (by omega) (by have := hg.k1; omega) (by rw [Nat.sub_zero, hb]; exact ha) (fun f hf => ⟨(hg.fs f hf).ev, (hg.fs f hf).ms⟩) hg.rs hg.ll hg.gl
   rw [Nat.sub_zero, hb2 ha] at hp
   rw [hb2 ha]
   exact hp
 obtain ⟨_, _, e3⟩ := next_p hg
 unfold F49
 by_cases hneg : beat < 0
 ·rw [if_pos (by simpa using hneg)]
  have : nxt beat start = start := by unfold nxt; rw [if_pos hneg]
  exact key start (by rw [this]) (fun _ => this.symm)
 ·rw [if_neg (by simpa using hneg)]
  exact key _ (e3 hneg).1 (e3 hneg).2
theorem loop_r {n : Nat} (hn : 10000 ≤ n) (C S : Int) (k c : Nat) : ∀ (m : Nat) (beat start : Int) (L : List Thing) (G : List Event) (W : List Frame), W.length < m → Good k c beat start L G W →
  zfq n m C S k start beat L G W = some (true, ⟨C, S, k, start, (goS k m beat start L G W).1, (goS k m beat start L G W).2.1, (goS k m beat start L G W).2.2.1, (goS k m beat start L G W).2.2.2⟩)
 | 0, _, _, _, _, _, h, _ => by omega
 | m + 1, beat, start, L, G, W, h, hg => by
  unfold zfq
  rw [goes_eq hn C S k c beat start L G W hg, goS]
  cases ha : allW (nxt beat start) k 0 W with
  | false => rfl
  | true =>
   simp only [yac, if_true]
   have hl := prc_len (nxt beat start) k 0 L G W ha
   exact loop_r hn C S k c m _ _ _ _ _ (by have := hg.k0; omega) (hg.step ha)
def okV (r : RV) (f : Frame) : Bool :=
 if f.Client ≠ r.Client then false else if f.Session ≠ r.Session then false else if f.From < 0 then false else if r.N ≤ f.From then false
 else if f.Start < 0 then false else if f.Beat < f.Start then false else if r.Start ≠ -1 ∧ f.Start ≠ r.Start then false
 else if f.Beat ≤ r.Beat then false else if 36 < f.Beat - imax f.Start r.Beat then false else if hasW f.From f.Beat r.Wait then false else f.Events.all isEv
structure FD (f : Frame) : Prop where
 hi : f.Beat ≤ 9223372036854775807
 lo : -9223372036854775808 ≤ f.Beat
 ev : f.Events.length ≤ 20
 ms : ∀ e ∈ f.Events, (Lit.int .u8 e.Delta.Mask).wf = true
structure RI (k c : Nat) (r : RV) : Prop where
 n : r.N = (k : Int)
 g : (r.Start = -1 ∧ r.Beat = -1 ∧ r.Wait = [] ∧ r.L = [] ∧ r.Log = [] ∧ 1 ≤ k ∧ k ≤ 4 ∧ c ≤ 50) ∨ Good k c r.Beat r.Start r.L r.Log r.Wait
theorem RI.k0 {k c : Nat} {r : RV} (h : RI k c r) : 1 ≤ k ∧ k ≤ 4 ∧ c ≤ 50 := by
 rcases h.g with g | g
 ·exact g.2.2.2.2.2
 ·exact ⟨g.k0, g.k1, g.c1⟩
theorem RI.wl {k c : Nat} {r : RV} (h : RI k c r) : r.Wait.length ≤ 50 := by
 rcases h.g with g | g
 ·rw [g.2.2.1]; simp
 ·have := g.ll; have := g.c1; omega
theorem RI.bt {k c : Nat} {r : RV} (h : RI k c r) : -1 ≤ r.Beat ∧ (r.Start = -1 ∨ 0 ≤ r.Start) := by
 rcases h.g with g | g
 ·exact ⟨by rw [g.2.1]; decide, .inl g.1⟩
 ·have := g.s0; rcases g.bs with h | h <;> exact ⟨by omega, .inr g.s0⟩
theorem okV_is {r : RV} {f : Frame} (h : okV r f = true) : f.Client = r.Client ∧ f.Session = r.Session ∧ 0 ≤ f.From ∧ f.From < r.N ∧ 0 ≤ f.Start ∧ f.Start ≤ f.Beat ∧ (r.Start = -1 ∨ f.Start = r.Start) ∧ r.Beat < f.Beat ∧
  f.Beat - imax f.Start r.Beat ≤ 36 ∧ hasW f.From f.Beat r.Wait = false ∧ f.Events.all isEv = true := by
 unfold okV at h
 repeat' split at h
 all_goals first | (cases h; done) | skip
 rename_i h1 h2 h3 h4 h5 h6 h7 h8 h9 h10
 refine ⟨by simpa using h1, by simpa using h2, by omega, by omega, by omega, by omega, ?_, by omega, by omega, by simpa using h10, h⟩
 by_cases hs : r.Start = -1
 ·exact .inl hs
 ·by_cases he : f.Start = r.Start
  ·exact .inr he
  ·exact absurd ⟨hs, he⟩ h7
theorem RI.add {k c : Nat} {r : RV} (h : RI k c r) (hc : c + 1 ≤ 50) {f : Frame} (hf : FD f) (ho : okV r f = true) : Good k (c + 1) r.Beat f.Start r.L r.Log (r.Wait ++ [f]) := by
 obtain ⟨_, _, o1, o2, o3, o4, o5, o6, _, o7, _⟩ := okV_is ho
 obtain ⟨k0, k1, c1⟩ := h.k0
 rw [h.n] at o2
 have hk : Fok k r.Beat f.Start f := ⟨o6, o4, hf.hi, o1, o2, hf.ev, hf.ms⟩
 rcases h.g with ⟨g1, g2, g3, g4, g5, _⟩ | g
 ·rw [g2, g3, g4, g5]
  rw [g2] at hk
  refine ⟨k0, k1, by omega, .inl rfl, o3, by decide, ⟨rfl, trivial⟩, fun x hx => ?_, by simp [Ris], by simp; omega, by simp; omega⟩
  have : x = f := by simpa using hx
  rw [this]; exact hk
 ·have hs : f.Start = r.Start := by
   rcases o5 with h | h
   ·have := g.s0; omega
   ·exact h
  have hll := g.ll; have hgl := g.gl
  refine ⟨k0, k1, by omega, by rw [hs]; exact g.bs, o3, g.bh, uniq_add f _ g.uq o7, fun x hx => ?_, g.rs, by rw [yae]; simp; omega, by rw [yae]; simp; omega⟩
  rw [List.mem_append] at hx
  rcases hx with hx | hx
  ·rw [hs]; exact g.fs x hx
  ·have : x = f := by simpa using hx
   rw [this]; exact hk
def aft (k : Nat) (r : RV) (f : Frame) : RV :=
 ⟨r.Client, r.Session, r.N, f.Start, (goS k (r.Wait.length + 2) r.Beat f.Start r.L r.Log (r.Wait ++ [f])).1, (goS k (r.Wait.length + 2) r.Beat f.Start r.L r.Log (r.Wait ++ [f])).2.1,
  (goS k (r.Wait.length + 2) r.Beat f.Start r.L r.Log (r.Wait ++ [f])).2.2.1, (goS k (r.Wait.length + 2) r.Beat f.Start r.L r.Log (r.Wait ++ [f])).2.2.2⟩
def zfw (k : Nat) (r : RV) (f : Frame) : Bool × RV := if okV r f then (true, aft k r f) else (false, r)
theorem take_inv {k c : Nat} {r : RV} (h : RI k c r) (hc : c + 1 ≤ 50) {f : Frame} (hf : FD f) : RI k (c + 1) (zfw k r f).2 := by
 unfold zfw
 cases ho : okV r f with
 | true => exact ⟨h.n, .inr (goS_good k (c + 1) _ _ _ _ _ _ (h.add hc hf ho))⟩
 | false =>
  refine ⟨h.n, ?_⟩
  rcases h.g with ⟨g1, g2, g3, g4, g5, g6, g7, g8⟩ | g
  ·exact .inl ⟨g1, g2, g3, g4, g5, g6, g7, hc⟩
  ·exact .inr ⟨g.k0, g.k1, hc, g.bs, g.s0, g.bh, g.uq, g.fs, g.rs, by have := g.ll; show r.L.length + 20 * r.Wait.length ≤ _; omega, by have := g.gl; show r.Log.length + 20 * r.Wait.length ≤ _; omega⟩
theorem cloneE {α : Type} {l : List α} (hl : l.length ≤ 100000) : zca l = some l := by
 unfold zca; rw [if_pos (by omega)]
theorem imax_ge (a b : Int) : a ≤ imax a b ∧ b ≤ imax a b ∧ (imax a b = a ∨ imax a b = b) := by
 unfold imax; split <;> omega
theorem may_eq {n k c : Nat} (hn : 10000 ≤ n) (r : RV) (h : RI k c r) (f : Frame) (hf : FD f) : F44 n (vOf r) f = some (okV r f, vOf r) := by
 have hev := hf.ev; have hhi := hf.hi
 have hbt := h.bt.1
 have hj : 0 ≤ f.Start → f.Start ≤ f.Beat → F44_j1 n (vOf r) f = some (if f.Beat ≤ r.Beat then false else if 36 < f.Beat - imax f.Start r.Beat then false else if hasW f.From f.Beat r.Wait then false else f.Events.all isEv, vOf r) := by
  intro h0 h1
  unfold F44_j1
  show (if decide (f.Beat ≤ r.Beat) = true then _ else if decide ((36 : Int) < IntKind.wrap .i64 (f.Beat - imax f.Start r.Beat)) = true then _ else if mhas (Key.mk f.From f.Beat) (r.Wait.map kv) = true then _ else _) = _
  rw [mhas_kv]
  obtain ⟨i1, i2, i3⟩ := imax_ge f.Start r.Beat
  by_cases c1 : f.Beat ≤ r.Beat
  ·rw [if_pos (by simpa using c1), if_pos c1]
  ·rw [if_neg (by simpa using c1), if_neg c1, wrap_id (by omega) (by omega)]
   by_cases c2 : 36 < f.Beat - imax f.Start r.Beat
   ·rw [if_pos (by simpa using c2), if_pos c2]
   ·rw [if_neg (by simpa using c2), if_neg c2]
    cases hasW f.From f.Beat r.Wait with
    | true => rfl
    | false =>
     simp only [yad, if_false]
     rw [anyV (by omega) (by omega)]
     simp
 unfold F44 okV
 show (if (f.Client != r.Client) = true then _ else if (f.Session != r.Session) = true then _ else if decide (f.From < 0) = true then _ else if decide (r.N ≤ f.From) = true then _ else if decide (f.Start < 0) = true then _ else if decide (f.Beat < f.Start) = true then _ else if (r.Start != (-1)) = true then (if (f.Start != r.Start) = true then _ else _) else _) = _
 by_cases a1 : f.Client = r.Client
 rotate_left
 ·rw [if_pos (show (f.Client != r.Client) = true by simp [a1]), if_pos (show f.Client ≠ r.Client from a1)]
 rw [if_neg (show ¬ (f.Client != r.Client) = true by simp [a1]), if_neg (show ¬ (f.Client ≠ r.Client) by simp [a1])]
 by_cases a2 : f.Session = r.Session
 rotate_left
 ·rw [if_pos (show (f.Session != r.Session) = true by simp [a2]), if_pos (show f.Session ≠ r.Session from a2)]
 rw [if_neg (show ¬ (f.Session != r.Session) = true by simp [a2]), if_neg (show ¬ (f.Session ≠ r.Session) by simp [a2])]
 by_cases a3 : f.From < 0
 ·rw [if_pos (show decide (f.From < 0) = true by simpa using a3), if_pos a3]
 rw [if_neg (show ¬ decide (f.From < 0) = true by simpa using a3), if_neg a3]
 by_cases a4 : r.N ≤ f.From
 ·rw [if_pos (show decide (r.N ≤ f.From) = true by simpa using a4), if_pos a4]
 rw [if_neg (show ¬ decide (r.N ≤ f.From) = true by simpa using a4), if_neg a4]
 by_cases a5 : f.Start < 0
 ·rw [if_pos (show decide (f.Start < 0) = true by simpa using a5), if_pos a5]
 rw [if_neg (show ¬ decide (f.Start < 0) = true by simpa using a5), if_neg a5]
 by_cases a6 : f.Beat < f.Start
 ·rw [if_pos (show decide (f.Beat < f.Start) = true by simpa using a6), if_pos a6]
 rw [if_neg (show ¬ decide (f.Beat < f.Start) = true by simpa using a6), if_neg a6]
 by_cases a7 : r.Start = -1
 ·rw [if_neg (show ¬ (r.Start != (-1)) = true by simp [a7]), if_neg (show ¬ (r.Start ≠ -1 ∧ f.Start ≠ r.Start) from fun q => q.1 a7)]
  exact hj (by omega) (by omega)
 ·rw [if_pos (show (r.Start != (-1)) = true by simp [a7])]
  by_cases a8 : f.Start = r.Start
  ·rw [if_neg (show ¬ (f.Start != r.Start) = true by simp [a8]), if_neg (show ¬ (r.Start ≠ -1 ∧ f.Start ≠ r.Start) from fun q => q.2 a8)]
   exact hj (by omega) (by omega)
  ·rw [if_pos (show (f.Start != r.Start) = true by simp [a8]), if_pos (show r.Start ≠ -1 ∧ f.Start ≠ r.Start from ⟨a7, a8⟩)]
theorem take_p {n k c : Nat} (hn : 10000 ≤ n) (r : RV) (h : RI k c r) (hc : c + 1 ≤ 50) (f : Frame) (hf : FD f) :
  F15 n (vOf r) f = some ((zfw k r f).1, vOf (zfw k r f).2) := by
 have hev := hf.ev
 have hwl := h.wl
 unfold F15 zfw
 rw [may_eq hn r h f hf]
 simp only [yac]
 cases ho : okV r f with
 | false => rfl
 | true =>
  simp only [ybb, yad, if_false, if_true]
  rw [cloneE (l := f.Events) (by omega)]
  simp only [yac]
  show zcy n (n + 8) r.Client r.Session r.N r.Beat f.Start r.L r.Log (mput (Key.mk f.From f.Beat) f.Events (r.Wait.map kv)) = _
  rw [mput_kv f r.Wait (okV_is ho).2.2.2.2.2.2.2.2.2.1, h.n]
  have hg := h.add hc hf ho
  have hlen : (r.Wait ++ [f]).length = r.Wait.length + 1 := by simp
  rw [loop_p hn r.Client r.Session k (c + 1) (n + 8) r.Beat f.Start r.L r.Log (r.Wait ++ [f]) (by omega) hg]
  rw [goS_same k hg.k0 (n + 8) (r.Wait.length + 2) r.Beat f.Start r.L r.Log (r.Wait ++ [f]) (by omega) (by omega)]
  unfold vOf aft
  rw [h.n]
theorem evs_r {n : Nat} (f : Frame) (hf : FD f) (C S N start beat : Int) (L : List Thing) (G : List Event) (W : List Frame) (hW : W.length ≤ 50) : ∀ (m i : Nat), i ≤ f.Events.length → f.Events.length - i < m →
  F16_l15 n f C S N start beat L G W m (i : Int) =
   if (f.Events.drop i).all isEv then zfq n (n + 8) C S N f.Start beat L G (W ++ [f]) else some (false, ⟨C, S, N, start, beat, L, G, W⟩)
 | 0, i, _, h => by omega
 | m + 1, i, hi, hm => by
  have hev := hf.ev
  unfold F16_l15
  by_cases h : i < f.Events.length
  ·rw [if_pos (zbl h), ixg _ i h, dropS _ i h, yac, rev_is n _ (hf.ms _ (ybq h)), yac, yby]
   cases hE : isEv f.Events[i] with
   | false => rfl
   | true =>
    simp only [ybb, yad, if_false, ybf]
    rw [zbz (by simp only [maxLen]; omega)]
    exact evs_r f hf C S N start beat L G W hW m (i + 1) (by omega) (by omega)
  ·rw [if_neg (by rw [zbr h]; decide), ybc (by omega), List.all_nil, if_pos rfl, if_pos ⟨by simp only [zae]; omega, by simp only [zae]; omega⟩]
theorem take_r {n k c : Nat} (hn : 10000 ≤ n) (r : RV) (h : RI k c r) (hc : c + 1 ≤ 50) (f : Frame) (hf : FD f) :
  F16 n r f = some (zfw k r f) := by
 have hev := hf.ev; have hhi := hf.hi; have hwl := h.wl
 have hbt := h.bt
 have hat := at_eq' (n := n) r f.From f.Beat (by omega) (by omega)
 have hlen : (r.Wait ++ [f]).length = r.Wait.length + 1 := by simp
 have hlast : okV r f = f.Events.all isEv → zfr n f r.Client r.Session r.N r.Start r.Beat r.L r.Log r.Wait = some (zfw k r f) := by
  intro ho
  unfold zfr zfw
  have he := evs_r (n := n) f hf r.Client r.Session r.N r.Start r.Beat r.L r.Log r.Wait hwl (n + 8) 0 (by omega) (by omega)
  rw [ycc, ← ho] at he
  refine Eq.trans he ?_
  cases ho2 : okV r f with
  | false => rfl
  | true =>
   simp only [if_true]
   have hg := h.add hc hf ho2
   rw [h.n, loop_r hn r.Client r.Session k (c + 1) (n + 8) r.Beat f.Start r.L r.Log (r.Wait ++ [f]) (by omega) hg]
   rw [goS_same k hg.k0 (n + 8) (r.Wait.length + 2) r.Beat f.Start r.L r.Log (r.Wait ++ [f]) (by omega) (by omega)]
   unfold aft
   rw [h.n]
 have no : okV r f = false → some (false, r) = some (zfw k r f) := by
  intro ho; unfold zfw; rw [ho]; rfl
 have htail : f.Client = r.Client → f.Session = r.Session → ¬ f.From < 0 → ¬ r.N ≤ f.From → ¬ f.Start < 0 → ¬ f.Beat < f.Start → ¬ (r.Start ≠ -1 ∧ f.Start ≠ r.Start) →
   (if decide (f.Beat ≤ r.Beat) = true then some (false, r) else if decide (imax f.Start r.Beat < IntKind.wrap .i64 (f.Beat - 36)) = true then some (false, r) else
    (F47 n r f.From f.Beat).bind fun r1 => if decide ((0 : Int) ≤ r1.1) = true then some (false, r1.2) else zfr n f r1.2.Client r1.2.Session r1.2.N r1.2.Start r1.2.Beat r1.2.L r1.2.Log r1.2.Wait) = some (zfw k r f) := by
  intro b1 b2 b3 b4 b5 b6 b7
  obtain ⟨i1, i2, i3⟩ := imax_ge f.Start r.Beat
  have ok1 : okV r f = if f.Beat ≤ r.Beat then false else if 36 < f.Beat - imax f.Start r.Beat then false else if hasW f.From f.Beat r.Wait then false else f.Events.all isEv := by
   unfold okV
   rw [if_neg (by simpa using b1), if_neg (by simpa using b2), if_neg b3, if_neg b4, if_neg b5, if_neg b6, if_neg b7]
  by_cases c1 : f.Beat ≤ r.Beat
  ·rw [if_pos (by simpa using c1)]; exact no (by rw [ok1, if_pos c1])
  ·rw [if_neg c1] at ok1
   rw [if_neg (by simpa using c1), wrap_id (by omega) (by omega)]
   by_cases c2 : 36 < f.Beat - imax f.Start r.Beat
   ·rw [if_pos (by simp; omega)]; exact no (by rw [ok1, if_pos c2])
   ·rw [if_neg c2] at ok1
    rw [if_neg (by simp; omega), hat, yac, (ix_dec f.From f.Beat r.Wait).1]
    cases hh : hasW f.From f.Beat r.Wait with
    | true => rw [hh] at ok1; exact no ok1
    | false => rw [hh] at ok1; exact hlast ok1
 unfold F16
 by_cases a1 : f.Client = r.Client
 rotate_left
 ·rw [if_pos (by simp [a1])]; exact no (by unfold okV; rw [if_pos a1])
 rw [if_neg (by simp [a1])]
 by_cases a2 : f.Session = r.Session
 rotate_left
 ·rw [if_pos (by simp [a2])]; exact no (by unfold okV; rw [if_neg (by simp [a1]), if_pos a2])
 rw [if_neg (by simp [a2])]
 by_cases a3 : f.From < 0
 ·rw [if_pos (by simpa using a3)]; exact no (by unfold okV; rw [if_neg (by simp [a1]), if_neg (by simp [a2]), if_pos a3])
 rw [if_neg (by simpa using a3)]
 by_cases a4 : r.N ≤ f.From
 ·rw [if_pos (by simpa using a4)]; exact no (by unfold okV; rw [if_neg (by simp [a1]), if_neg (by simp [a2]), if_neg a3, if_pos a4])
 rw [if_neg (by simpa using a4)]
 by_cases a5 : f.Start < 0
 ·rw [if_pos (by simpa using a5)]; exact no (by unfold okV; rw [if_neg (by simp [a1]), if_neg (by simp [a2]), if_neg a3, if_neg a4, if_pos a5])
 rw [if_neg (by simpa using a5)]
 by_cases a6 : f.Beat < f.Start
 ·rw [if_pos (by simpa using a6)]; exact no (by unfold okV; rw [if_neg (by simp [a1]), if_neg (by simp [a2]), if_neg a3, if_neg a4, if_neg a5, if_pos a6])
 rw [if_neg (by simpa using a6)]
 have hok7 : r.Start ≠ -1 ∧ f.Start ≠ r.Start → okV r f = false := fun q => by
  unfold okV; rw [if_neg (by simp [a1]), if_neg (by simp [a2]), if_neg a3, if_neg a4, if_neg a5, if_neg a6, if_pos q]
 by_cases a7 : 0 ≤ r.Start
 ·rw [if_pos (by simpa using a7)]
  by_cases a8 : f.Start = r.Start
  ·rw [if_neg (by simp [a8])]
   exact htail a1 a2 a3 a4 a5 a6 (fun q => q.2 a8)
  ·rw [if_pos (by simp [a8])]
   exact no (hok7 ⟨by omega, a8⟩)
 ·rw [if_neg (by simpa using a7)]
  exact htail a1 a2 a3 a4 a5 a6 (fun q => by rcases hbt.2 with h | h <;> omega)
theorem sameT_l (n : Nat) (l : List Thing) (hl : l.length ≤ 100000) : ∀ (m i : Nat), i ≤ l.length → l.length - i < m → F19_l4 n l l m (i : Int) = some true
 | 0, i, _, h => by omega
 | m + 1, i, hi, h => by
  unfold F19_l4
  by_cases hlt : i < l.length
  ·rw [if_pos (zbl hlt), ixg l i hlt]
   simp only [yac, Thing.eqb_refl, ybb, yad, if_false]
   rw [zbz (by simp only [maxLen]; omega)]
   exact sameT_l n l hl m (i + 1) (by omega) (by omega)
  ·rw [if_neg (by rw [zbr hlt]; decide)]
theorem sameT {n : Nat} {l : List Thing} (hl : l.length ≤ 100000) (hn : l.length ≤ n) : F19 n l l = some true := by
 unfold F19
 rw [if_neg (by simp)]
 exact sameT_l n l hl (n + 8) 0 (by omega) (by omega)
theorem RI.ll {k c : Nat} {r : RV} (h : RI k c r) : r.L.length ≤ 1000 ∧ r.Log.length ≤ 1000 := by
 rcases h.g with g | g
 ·rw [g.2.2.2.1, g.2.2.2.2.1]; simp
 ·have := g.ll; have := g.gl; have := g.c1; omega
theorem clamp (x : Int) : ∃ k : Nat, 1 ≤ k ∧ k ≤ 4 ∧ imin (imax x 1) 4 = (k : Int) ∧ imax 1 (imin x 4) = (k : Int) := by
 refine ⟨(imax 1 (imin x 4)).toNat, ?_⟩
 unfold imax imin
 repeat' split
 all_goals (refine ⟨by omega, by omega, by omega, by omega⟩)
theorem RI.new (k : Nat) (h0 : 1 ≤ k) (h1 : k ≤ 4) (C S : Int) (c : Nat) (hc : c ≤ 50) : RI k c ⟨C, S, k, -1, -1, [], [], []⟩ := ⟨rfl, .inl ⟨rfl, rfl, rfl, rfl, rfl, h0, h1, hc⟩⟩
theorem int_wf {x : Int} (h : (Lit.int .i64 x).wf = true) : -9223372036854775808 ≤ x ∧ x < 9223372036854775808 := by
 simp [Lit.wf, IntKind.min, IntKind.max, IntKind.bits, IntKind.signed] at h; omega
theorem FD.of {f : Frame} (h : Frame.wf f) (he : f.Events.length ≤ 20) : FD f := by
 obtain ⟨_, _, _, _, h1, h2, _⟩ := h
 have := int_wf h1
 exact ⟨by omega, by omega, he, fun e he => (h2 e he).2.2.2.2.1⟩
theorem has_cutG (s s' b b' : Int) (hs : ¬ (s = s' ∧ b = b')) : ∀ w : List Frame, hasW s b (cutW s' b' w) = hasW s b w
 | [] => rfl
 | f :: w => by
  rw [cutW]
  split
  ·rename_i hh
   rw [hasW, if_neg (fun q => hs ⟨q.1.trans hh.1.symm, q.2.trans hh.2.symm⟩)]
  ·rw [hasW, hasW, has_cutG s s' b b' hs w]
theorem prc_has (b : Int) (s' b' : Int) : ∀ (k s : Nat) (L : List Thing) (G : List Event) (W : List Frame), ¬ (b' = b ∧ (s : Int) ≤ s' ∧ s' < s + k) → hasW s' b' (prc b k s L G W).2.2 = hasW s' b' W
 | 0, _, _, _, _, _ => rfl
 | k + 1, s, L, G, W, h => by
  rw [prc, prc_has b s' b' k (s + 1) _ _ _ (fun q => h ⟨q.1, by omega, by omega⟩)]
  exact has_cutG _ _ _ _ (fun q => h ⟨q.2, by omega, by omega⟩) W
def prE (Ev : Int → Int → List Event) (b : Int) : Nat → Nat → List Thing → List Event → List Thing × List Event
 | 0, _, L, G => (L, G)
 | k + 1, s, L, G => prE Ev b k (s + 1) (if (fld L L (Ev s b)).2 then (fld L L (Ev s b)).1 else L) (if (fld L L (Ev s b)).2 then G ++ Ev s b else G)
theorem prc_E (Ev : Int → Int → List Event) (b : Int) : ∀ (k s : Nat) (L : List Thing) (G : List Event) (W : List Frame), allW b k s W = true → (∀ f ∈ W, f.Events = Ev f.From f.Beat) →
  (prc b k s L G W).1 = (prE Ev b k s L G).1 ∧ (prc b k s L G W).2.1 = (prE Ev b k s L G).2
 | 0, _, _, _, _, _, _ => ⟨rfl, rfl⟩
 | k + 1, s, L, G, W, ha, hE => by
  rw [allW, yag] at ha
  obtain ⟨f, f1, f2, f3, f4⟩ := get_mem s b W ha.1
  have hg : getW s b W = Ev s b := by rw [f4, hE f f1, f2, f3]
  rw [prc, prE, hg]
  exact prc_E Ev b k (s + 1) _ _ _ (by rw [zev _ _ _ _ _ (by omega)]; exact ha.2) (fun g hg => hE g (cut_mem _ _ _ _ hg))
def can (Ev : Int → Int → List Event) (k : Nat) (st : Int) : Nat → List Thing × List Event
 | 0 => ([], [])
 | d + 1 => prE Ev (st + d) k 0 (can Ev k st d).1 (can Ev k st d).2
def btOf (st : Int) (d : Nat) : Int := if d = 0 then -1 else st + d - 1
theorem nxt_bt {st : Int} (h0 : 0 ≤ st) (d : Nat) : nxt (btOf st d) st = st + d := by
 unfold nxt btOf
 by_cases h : d = 0
 ·subst h; simp
 ·rw [if_neg h, if_neg (by omega)]; omega
structure Wt (Ev : Int → Int → List Event) (T : Int → Int → Prop) (k : Nat) (st : Int) (c d : Nat) (beat : Int) (L : List Thing) (G : List Event) (W : List Frame) : Prop where
 bt : beat = btOf st d
 cn : (L, G) = can Ev k st d
 hs : ∀ s b : Int, hasW s b W = true ↔ (T s b ∧ st + d ≤ b)
 ev : ∀ f ∈ W, f.Events = Ev f.From f.Beat
 tk : ∀ s b : Int, 0 ≤ s → s < (k : Int) → st ≤ b → b < st + d → T s b
 ln : W.length + k * d = c
theorem allW_no (b : Int) : ∀ (k s : Nat) (W : List Frame), allW b k s W = false → ∃ j : Nat, s ≤ j ∧ j < s + k ∧ hasW j b W = false
 | 0, _, _, h => by cases h
 | k + 1, s, W, h => by
  rw [allW] at h
  cases hh : hasW s b W with
  | false => exact ⟨s, by omega, by omega, hh⟩
  | true =>
   rw [hh, ybf] at h
   obtain ⟨j, h1, h2, h3⟩ := allW_no b k (s + 1) W h
   exact ⟨j, by omega, by omega, h3⟩
theorem goS_Wt (Ev : Int → Int → List Event) (T : Int → Int → Prop) (k c cc : Nat) : ∀ (m : Nat) (beat st : Int) (L : List Thing) (G : List Event) (W : List Frame) (d : Nat), W.length < m → Good k cc beat st L G W → Wt Ev T k st c d beat L G W →
  ∃ d', d ≤ d' ∧ Wt Ev T k st c d' (goS k m beat st L G W).1 (goS k m beat st L G W).2.1 (goS k m beat st L G W).2.2.1 (goS k m beat st L G W).2.2.2 ∧ ∃ s : Nat, s < k ∧ ¬ T s (st + d')
 | 0, _, _, _, _, _, _, h, _, _ => by omega
 | m + 1, beat, st, L, G, W, d, h, hg, hw => by
  have hn : nxt beat st = st + d := by rw [hw.bt]; exact nxt_bt hg.s0 d
  rw [goS]
  cases ha : allW (nxt beat st) k 0 W with
  | false =>
   refine ⟨d, yai _, hw, ?_⟩
   obtain ⟨j, _, h2, h3⟩ := allW_no _ _ _ _ ha
   refine ⟨j, by omega, fun ht => ?_⟩
   rw [hn] at h3
   have := (hw.hs j (st + d)).2 ⟨ht, Int.le_refl _⟩
   rw [h3] at this; cases this
  | true =>
   simp only [if_true]
   have hl := prc_len (nxt beat st) k 0 L G W ha
   have hk := hg.k0
   obtain ⟨e1, e2⟩ := prc_E Ev (nxt beat st) k 0 L G W ha hw.ev
   have hcn : (L, G) = can Ev k st d := hw.cn
   have hL : L = (can Ev k st d).1 := congrArg Prod.fst hcn
   have hG : G = (can Ev k st d).2 := congrArg Prod.snd hcn
   have hw' : Wt Ev T k st c (d + 1) (nxt beat st) (prc (nxt beat st) k 0 L G W).1 (prc (nxt beat st) k 0 L G W).2.1 (prc (nxt beat st) k 0 L G W).2.2 := by
    refine ⟨by rw [hn]; unfold btOf; rw [if_neg (by omega)]; omega, ?_, fun s b => ?_, fun f hf => hw.ev f (prc_mem _ _ _ _ _ _ f hf), fun s b s0 s1 b0 b1 => ?_, ?_⟩
    ·rw [e1, e2, can, ← hL, ← hG, hn]
    ·by_cases hb : b = nxt beat st ∧ ((0 : Nat) : Int) ≤ s ∧ s < ((0 : Nat) : Int) + k
     ·obtain ⟨b1, b2, b3⟩ := hb
      have hno := prc_no (nxt beat st) k 0 L G W hg.uq s.toNat (by omega) (by omega)
      rw [show ((s.toNat : Nat) : Int) = s by omega, ← b1] at hno
      rw [← b1, hno]
      constructor
      ·intro q; cases q
      ·intro q; have := q.2; omega
     ·rw [prc_has _ _ _ _ _ _ _ _ hb, hw.hs]
      constructor
      ·intro q
       refine ⟨q.1, ?_⟩
       have hm := (hw.hs s b).2 q
       obtain ⟨f, f1, f2, f3, _⟩ := get_mem s b W hm
       have hf := hg.fs f f1
       have := hf.f0; have := hf.f1
       by_cases hbb : b = st + d
       ·exact absurd ⟨by omega, by omega, by omega⟩ hb
       ·have := q.2; omega
      ·intro q; exact ⟨q.1, by have := q.2; omega⟩
    ·by_cases hbb : b = st + d
     ·have := allW_at _ _ _ _ ha s.toNat (by omega) (by omega)
      rw [show ((s.toNat : Nat) : Int) = s by omega, hn, ← hbb] at this
      exact ((hw.hs s b).1 this).1
     ·exact hw.tk s b s0 s1 b0 (by omega)
    ·have := hw.ln
     rw [Nat.mul_succ]; omega
   obtain ⟨d', q1, q2, q3⟩ := goS_Wt Ev T k c cc m _ st _ _ _ (d + 1) (by omega) (hg.step ha) hw'
   exact ⟨d', by omega, q2, q3⟩
structure Cn (Ev : Int → Int → List Event) (T : Int → Int → Prop) (k : Nat) (st : Int) (c d : Nat) (r : RV) : Prop where
 ri : RI k c r
 w : Wt Ev T k st c d r.Beat r.L r.Log r.Wait
 so : r.Start = -1 ∨ r.Start = st
 no : ∃ s : Nat, s < k ∧ ¬ T s (st + d)
theorem has_add (s b : Int) (f : Frame) : ∀ w : List Frame, hasW s b (w ++ [f]) = (hasW s b w || decide (s = f.From ∧ b = f.Beat))
 | [] => by
  rw [ybw, hasW, hasW, Bool.false_or]
  split
  ·rename_i h; simp [h]
  ·rename_i h; rw [decide_eq_false h]; rfl
 | g :: w => by
  rw [List.cons_append, hasW, hasW, has_add s b f w]
  split <;> simp
theorem Cn.new (Ev : Int → Int → List Event) (k : Nat) (h0 : 1 ≤ k) (h1 : k ≤ 4) (C S st : Int) : Cn Ev (fun _ _ => False) k st 0 0 ⟨C, S, k, -1, -1, [], [], []⟩ :=
 ⟨RI.new k h0 h1 C S 0 (by omega), ⟨rfl, rfl, fun s b => ⟨fun h => (by cases h), fun h => h.1.elim⟩, fun f h => (by cases h), fun s b _ _ h1 h2 => (by omega), rfl⟩, .inl rfl, 0, h0, id⟩
theorem Cn.take {Ev : Int → Int → List Event} {T : Int → Int → Prop} {k : Nat} {st : Int} {c d : Nat} {r : RV} (h : Cn Ev T k st c d r) (hc : c + 1 ≤ 50) {f : Frame} (hf : FD f) (ho : okV r f = true) (hst : f.Start = st) (hE : f.Events = Ev f.From f.Beat) :
  ∃ d', d ≤ d' ∧ Cn Ev (fun s b => T s b ∨ (s = f.From ∧ b = f.Beat)) k st (c + 1) d' (zfw k r f).2 := by
 have hg := h.ri.add hc hf ho
 have hri := take_inv h.ri hc hf
 obtain ⟨_, _, _, _, o3, o4, _, o6, _, o7, _⟩ := okV_is ho
 have hgo : st + d ≤ f.Beat := by
  have := h.w.bt
  have hb := (nxt_ge (beat := r.Beat) (start := st) (by rw [← hst]; exact hg.bs) (by rw [← hst]; exact o3)).2.2 f.Beat o6 (by rw [← hst]; exact o4)
  rw [h.w.bt, nxt_bt (by rw [← hst]; exact o3)] at hb
  exact hb
 have hw : Wt Ev (fun s b => T s b ∨ (s = f.From ∧ b = f.Beat)) k st (c + 1) d r.Beat r.L r.Log (r.Wait ++ [f]) := by
  refine ⟨h.w.bt, h.w.cn, fun s b => ?_, fun g hg' => ?_, fun s b s0 s1 b0 b1 => .inl (h.w.tk s b s0 s1 b0 b1), by have := h.w.ln; rw [yae]; simp; omega⟩
  ·rw [has_add, ycj, decide_eq_true_eq, h.w.hs]
   constructor
   ·rintro (q | q)
    ·exact ⟨.inl q.1, q.2⟩
    ·exact ⟨.inr q, by rw [q.2]; exact hgo⟩
   ·rintro ⟨q | q, q2⟩
    ·exact .inl ⟨q, q2⟩
    ·exact .inr q
  ·rw [List.mem_append] at hg'
   rcases hg' with hg' | hg'
   ·exact h.w.ev g hg'
   ·have : g = f := by simpa using hg'
    rw [this]; exact hE
 have hlen : (r.Wait ++ [f]).length = r.Wait.length + 1 := by simp
 rw [hst] at hg
 obtain ⟨d', q1, q2, q3⟩ := goS_Wt Ev _ k (c + 1) (c + 1) (r.Wait.length + 2) r.Beat st r.L r.Log (r.Wait ++ [f]) d (by omega) hg hw
 refine ⟨d', q1, hri, ?_, ?_, q3⟩
 ·unfold zfw
  rw [if_pos ho]
  unfold aft
  rw [hst]
  exact q2
 ·unfold zfw
  rw [if_pos ho]
  exact .inr hst
theorem Cn.congr {Ev : Int → Int → List Event} {T T' : Int → Int → Prop} {k : Nat} {st : Int} {c d : Nat} {r : RV} (h : Cn Ev T k st c d r) (hT : ∀ s b, T s b ↔ T' s b) : Cn Ev T' k st c d r := by
 have : T = T' := by funext s b; exact propext (hT s b)
 rw [← this]; exact h
theorem Cn.ll {Ev : Int → Int → List Event} {T : Int → Int → Prop} {k : Nat} {st : Int} {c d : Nat} {r : RV} (h : Cn Ev T k st c d r) : r.L = (can Ev k st d).1 ∧ r.Log = (can Ev k st d).2 ∧ r.Wait.length + k * d = c ∧ r.Beat = btOf st d :=
 ⟨congrArg Prod.fst h.w.cn, congrArg Prod.snd h.w.cn, h.w.ln, h.w.bt⟩
theorem clampk {k : Nat} (h0 : 1 ≤ k) (h1 : k ≤ 4) : imin (imax (k : Int) 1) 4 = (k : Int) := by
 unfold imin imax
 split <;> split <;> omega
theorem RI.start {k c : Nat} {r : RV} (h : RI k c r) (hb : r.Beat ≠ -1) : r.Start ≠ -1 := by
 rcases h.g with g | g
 ·exact absurd g.2.1 hb
 ·have := g.s0; omega
def noC : Command := ⟨0, 0, 0, 0, ⟨0, 0⟩, ⟨⟨0, ByteArray.empty⟩, ⟨0, ByteArray.empty⟩, ⟨0, ByteArray.empty⟩, ⟨0, ByteArray.empty⟩⟩, ⟨0, ByteArray.empty⟩, 0, 0, ⟨0, 0, 0, 0⟩⟩
def noNt : Note := ⟨0, 0, [], [], [], []⟩
def noFr : Frame := ⟨0, 0, 0, 0, 0, []⟩
def nPk : Packet := ⟨0, 0, 0, 0, noC, 0, 0, noNt, noFr, 0, 0⟩
def newC (id k s : Int) : Client := ⟨id, k, s, ⟨id, s, k, -1, -1, [], [], []⟩, nPk, false, 0, 0, 0⟩
theorem newC_eq (n : Nat) (a0 a1 : Int) (k : Nat) (k0 : 1 ≤ k) (k1 : k ≤ 4) (hk : imin (imax a1 1) 4 = (k : Int)) : F27 n a0 a1 = some (newC (imin (imax a0 0) 3) k 1) := by
 unfold F27 F38s0 F13
 simp only [yac, hk, clampk k0 k1]
 rfl
def ack (id s b : Int) (i : Nat) : Packet := ⟨IntKind.wrap .i64 (100 + id), (i : Int), 5, 0, noC, 0, 0, noNt, noFr, s, b⟩
def acks (id s b : Int) : Nat → Nat → List Packet
 | 0, _ => []
 | j + 1, i => ack id s b i :: acks id s b j (i + 1)
def pulseS (id s b : Int) (k : Nat) (busy : Bool) (p : Packet) : List Packet := (if busy = true then [p] else []) ++ (if b < 0 then [] else acks id s b k 0)
theorem pulse_l (n : Nat) (c : Client) (k : Nat) (k1 : k ≤ 4) (hk : c.n = (k : Int)) : ∀ (m i : Nat) (l : List Packet), i ≤ k → k - i < m → l.length ≤ 1 + i →
  zeh n c m l (i : Int) c.v.client c.v.session c.v.n c.v.beat c.v.start c.v.things c.v.log_ c.v.wait = some (l ++ (if c.v.beat < 0 then [] else acks c.id_ c.session c.v.beat (k - i) i), c)
 | 0, i, l, _, h, _ => by omega
 | m + 1, i, l, hi, h, hl => by
  unfold zeh F17
  simp only [yac, decide_eq_true_eq, hk]
  by_cases hlt : i < k
  ·rw [if_pos (show (i : Int) < (k : Int) by omega)]
   by_cases hb : c.v.beat < 0
   ·rw [if_pos hb, if_pos hb, yci, ← hk]
   ·rw [if_neg hb, if_neg hb, if_pos ⟨by simp only [zae]; omega, by simp only [zae]; omega⟩, zbz (show i < maxLen by simp only [maxLen]; omega)]
    have hr := pulse_l n c k k1 hk m (i + 1) (l ++ [ack c.id_ c.session c.v.beat i]) (by omega) (by omega) (by simp; omega)
    rw [if_neg hb] at hr
    refine hr.trans ?_
    obtain ⟨j, hj⟩ : ∃ j, k - i = j + 1 := ⟨k - i - 1, by omega⟩
    rw [hj, show k - (i + 1) = j by omega, ybz]
    rfl
  ·rw [if_neg (show ¬ (i : Int) < (k : Int) by omega), show k - i = 0 by omega, ← hk]
   simp [acks]
theorem pulse_l' (n : Nat) (c : Client) : ∀ (m : Nat) (l : List Packet) (i : Int) (a b d e f : Int) (g : List Thing) (h : List Event) (w : List (Key × List Event)),
  F30_l64 n c m l i a b d e f g h w = zeh n c m l i a b d e f g h w
 | 0, _, _, _, _, _, _, _, _, _, _ => rfl
 | m + 1, l, i, a, b, d, e, f, g, h, w => by
  unfold F30_l64 zeh
  simp only [pulse_l' n c m]
theorem pulse_eq {n : Nat} (c : Client) (k : Nat) (k1 : k ≤ 4) (hk : c.n = (k : Int)) : F30 n c = some (pulseS c.id_ c.session c.v.beat k c.busy c.asked, c) := by
 unfold F30 pulseS
 by_cases hb : c.busy = true
 ·rw [if_pos hb, if_pos hb, if_pos ⟨by simp [zae], by simp [zae]⟩]
  exact pulse_l n c k k1 hk (n + 8) 0 [c.asked] (by omega) (by omega) (by simp)
 ·rw [if_neg hb, if_neg hb, pulse_l' n c (n + 8)]
  exact pulse_l n c k k1 hk (n + 8) 0 [] (by omega) (by omega) (by simp)
theorem fewC (n : Nat) (c : Command) : ∃ b, F26 n c = some b := by
 unfold F26
 repeat' split
 all_goals exact ⟨_, rfl⟩
theorem shape_eq (n : Nat) (c : Command) : F67 n c = some (coreC c) :=
 (show F67 n c = F63 n c from rfl).trans (core_eq n c)
theorem within_eq (n : Nat) (x a b : Int) : F66 n x a b = some (decide (a ≤ x) && decide (x ≤ b)) := by
 unfold F66
 by_cases h : a ≤ x <;> simp [h]
theorem rcisF_eq (n : Nat) (f : Field) : F70 n f = some (isF f) := by
 unfold F70 isF
 generalize (f.N == 0) = p
 generalize (f.Text.toList == ByteArray.empty.toList) = q
 cases p <;> cases q <;> simp
theorem ifand (p x y : Bool) : (if p = true then some x else some (false && y)) = some (p && x) := by cases p <;> rfl
theorem ifand' (p x : Bool) : (if p = true then some x else some false) = some (p && x) := by cases p <;> rfl
theorem rpoint_eq (n : Nat) (p : Point) : F68 n p = some (near p.X && near p.Y) := by
 unfold F68 near
 simp only [within_eq, yac, ifand']
theorem rrect_eq (n : Nat) (r : Rect) : F69 n r = some ((near r.X0 && near r.Y0) && (near r.X1 && near r.Y1)) := by
 unfold F69
 simp only [rpoint_eq, yac, ifand']
theorem rj12_eq (n : Nat) (c : Command) (b : Bool) : zbp n c b = some (b && (isF c.F.a0 && (isF c.F.a1 && (isF c.F.a2 && isF c.F.a3)))) := by
 unfold zbp F53_u15 F53_u18 F53_u21 F53_u24
 simp only [rcisF_eq, yac]
 cases b <;> cases isF c.F.a0 <;> cases isF c.F.a1 <;> cases isF c.F.a2 <;> simp
theorem rcis_eq (n : Nat) (c : Command) : F53 n c = some (isC c) := by
 unfold F53
 simp only [rj12_eq, within_eq, shape_eq, rpoint_eq, rrect_eq, rcisF_eq, yac, ifand]
 have e3 : decide (c.Client ≤ 3) = decide (c.Client < 4) := by
  rw [decide_eq_decide]; omega
 unfold isC boundsC
 simp only [yby, List.all_nil, Bool.and_true, e3]
 congr 1
 ac_rfl
abbrev RC := Client_vedetteref23
theorem RI.mono {k c : Nat} {r : RV} (h : RI k c r) (hc : c + 1 ≤ 50) : RI k (c + 1) r := by
 refine ⟨h.n, ?_⟩
 rcases h.g with ⟨g1, g2, g3, g4, g5, g6, g7, g8⟩ | g
 ·exact .inl ⟨g1, g2, g3, g4, g5, g6, g7, hc⟩
 ·exact .inr ⟨g.k0, g.k1, hc, g.bs, g.s0, g.bh, g.uq, g.fs, g.rs, by have := g.ll; show r.L.length + 20 * r.Wait.length ≤ _; omega, by have := g.gl; show r.Log.length + 20 * r.Wait.length ≤ _; omega⟩
structure Sim (k i : Nat) (c : Client) (r : RC) : Prop where
 me : c.id_ = r.Me
 n : c.n = (k : Int)
 n' : r.N = (k : Int)
 ss : c.session = r.Session
 v : c.v = vOf r.V
 ri : RI k i r.V
 bz : c.busy = r.Busy
 sq : c.seq = r.Seq
 th : c.thing = r.ID
 e : c.e = r.E
 ak : c.busy = true → c.asked = r.Ask ∧ c.asked.Seq = c.seq
theorem both_ask (n : Nat) {k i : Nat} {c : Client} {r : RC} (h : Sim k i c r) (to : Int) (x : Command) : ∃ p e c' r', F28 n c to x = some (p, e, c') ∧ F33 n r to x = some (p, e, r') ∧ Sim k i c' r' := by
 unfold F28 F33
 simp only [isC_eq, rcis_eq, yac, decide_eq_true_eq, ← h.bz, h.n, h.n', ← h.me, ← h.ss, ← h.sq]
 by_cases h1 : c.busy = true
 ·rw [if_pos h1, if_pos h1]; exact ⟨_, _, _, _, rfl, rfl, h⟩
 rw [if_neg h1, if_neg h1]
 by_cases h2 : to < 0
 ·rw [if_pos h2, if_pos h2]; exact ⟨_, _, _, _, rfl, rfl, h⟩
 rw [if_neg h2, if_neg h2]
 by_cases h3 : (k : Int) ≤ to
 ·rw [if_pos h3, if_pos h3]; exact ⟨_, _, _, _, rfl, rfl, h⟩
 rw [if_neg h3, if_neg h3]
 split
 ·exact ⟨_, _, _, _, rfl, rfl, h⟩
 ·exact ⟨_, _, _, _, rfl, rfl, rfl, rfl, rfl, rfl, h.v, h.ri, rfl, rfl, h.th, h.e, fun _ => ⟨rfl, rfl⟩⟩
theorem both_handle {n : Nat} (hn : 10000 ≤ n) {k i : Nat} {c : Client} {r : RC} (h : Sim k i c r) (hc : i + 1 ≤ 50) (p : Packet) (hf : FD p.F) : ∃ e c' r', F35 n c p = some (e, c') ∧ F36 n r p = some (e, r') ∧ Sim k (i + 1) c' r' := by
 have hm : Sim k (i + 1) c r := { h with ri := h.ri.mono hc }
 unfold F35 F36
 rw [← h.bz, ← h.me, ← h.ss, h.v, take_p hn r.V h.ri hc p.F hf, take_r hn r.V h.ri hc p.F hf]
 have hinv := take_inv h.ri hc hf
 by_cases h1 : (p.To != IntKind.wrap .i64 (100 + c.id_)) = true
 ·rw [if_pos h1, if_pos h1]; exact ⟨_, _, _, rfl, rfl, hm⟩
 rw [if_neg h1, if_neg h1]
 by_cases h2 : (p.Kind == 2) = true
 ·rw [if_pos h2, if_pos h2]
  by_cases h3 : c.busy = true
  ·obtain ⟨k1, k2⟩ := h.ak h3
   rw [if_pos h3, if_pos h3, k2, ← h.sq, ← k1]
   by_cases h4 : (p.Session == c.session) = true
   ·rw [if_pos h4, if_pos h4]
    by_cases h5 : (p.Seq == c.seq) = true
    ·rw [if_pos h5, if_pos h5]
     by_cases h6 : (p.From == c.asked.To) = true
     ·rw [if_pos h6, if_pos h6]
      refine ⟨_, _, _, rfl, rfl, rfl, h.n, h.n', rfl, rfl, h.ri.mono hc, rfl, rfl, rfl, rfl, fun q => by cases q⟩
     ·rw [if_neg h6, if_neg h6]; exact ⟨_, _, _, rfl, rfl, hm⟩
    ·rw [if_neg h5, if_neg h5]; exact ⟨_, _, _, rfl, rfl, hm⟩
   ·rw [if_neg h4, if_neg h4]; exact ⟨_, _, _, rfl, rfl, hm⟩
  ·rw [if_neg h3, if_neg h3]; exact ⟨_, _, _, rfl, rfl, hm⟩
 rw [if_neg h2, if_neg h2]
 by_cases h3 : (p.Kind == 4) = true
 ·rw [if_pos h3, if_pos h3]
  simp only [yac]
  exact ⟨_, _, _, rfl, rfl, rfl, h.n, h.n', rfl, rfl, hinv, rfl, h.sq, h.th, h.e, h.ak⟩
 ·rw [if_neg h3, if_neg h3]; exact ⟨_, _, _, rfl, rfl, hm⟩
theorem pulseR_l (n : Nat) (r : RC) (k : Nat) (k1 : k ≤ 4) (hk : r.N = (k : Int)) : ∀ (m i : Nat) (l : List Packet), i ≤ k → k - i < m → l.length ≤ 1 + i →
  F37_l9 n r m l (i : Int) = some (l ++ (if r.V.Beat < 0 then [] else acks r.Me r.Session r.V.Beat (k - i) i), r)
 | 0, i, l, _, h, _ => by omega
 | m + 1, i, l, hi, h, hl => by
  unfold F37_l9
  simp only [decide_eq_true_eq, hk]
  by_cases hlt : i < k
  ·rw [if_pos (show (i : Int) < (k : Int) by omega)]
   by_cases hb : r.V.Beat < 0
   ·rw [if_neg (by omega), if_pos hb, yci]
   ·rw [if_pos (by omega), if_neg hb, if_pos ⟨by simp only [zae]; omega, by simp only [zae]; omega⟩, zbz (show i < maxLen by simp only [maxLen]; omega)]
    have hr := pulseR_l n r k k1 hk m (i + 1) (l ++ [ack r.Me r.Session r.V.Beat i]) (by omega) (by omega) (by simp; omega)
    rw [if_neg hb] at hr
    refine hr.trans ?_
    obtain ⟨j, hj⟩ : ∃ j, k - i = j + 1 := ⟨k - i - 1, by omega⟩
    rw [hj, show k - (i + 1) = j by omega, ybz]
    rfl
  ·rw [if_neg (show ¬ (i : Int) < (k : Int) by omega), show k - i = 0 by omega]
   simp [acks]
theorem pulseR_eq {n : Nat} (r : RC) (k : Nat) (k1 : k ≤ 4) (hk : r.N = (k : Int)) : F37 n r = some (pulseS r.Me r.Session r.V.Beat k r.Busy r.Ask, r) := by
 unfold F37 F37_j2 pulseS
 by_cases hb : r.Busy = true
 ·rw [if_pos hb, if_pos hb, if_pos ⟨by simp [zae], by simp [zae]⟩]
  exact pulseR_l n r k k1 hk (n + 8) 0 [r.Ask] (by omega) (by omega) (by simp)
 ·rw [if_neg hb, if_neg hb]
  exact pulseR_l n r k k1 hk (n + 8) 0 [] (by omega) (by omega) (by simp)
theorem acks_len (id s b : Int) : ∀ (k i : Nat), (acks id s b k i).length = k
 | 0, _ => rfl
 | k + 1, i => by rw [acks, yaq, acks_len id s b k]
theorem both_pulse (n : Nat) {k i : Nat} {c : Client} {r : RC} (h : Sim k i c r) : ∃ l : List Packet, l.length ≤ 10 ∧ F30 n c = some (l, c) ∧ F37 n r = some (l, r) := by
 obtain ⟨k0, k1, _⟩ := h.ri.k0
 refine ⟨pulseS c.id_ c.session c.v.beat k c.busy c.asked, ?_, pulse_eq c k k1 h.n, ?_⟩
 ·unfold pulseS
  rw [yae]
  have : (if c.busy = true then [c.asked] else []).length ≤ 1 := by split <;> simp
  have : (if c.v.beat < 0 then [] else acks c.id_ c.session c.v.beat k 0).length ≤ 4 := by
   split
   ·simp
   ·rw [acks_len]; omega
  omega
 ·rw [pulseR_eq r k k1 h.n', h.me, h.ss, h.v]
  show _ = some (pulseS r.Me r.Session r.V.Beat k c.busy c.asked, r)
  rw [h.bz]
  unfold pulseS
  cases hb : r.Busy with
  | false => rfl
  | true => rw [(h.ak (h.bz.trans hb)).1]
theorem new_sim (a0 : Int) (k : Nat) (k0 : 1 ≤ k) (k1 : k ≤ 4) (s s' : Int) (hs : s = s') (P : Packet) (q : Int) (hq : q = a0) : Sim k 0 (newC a0 k s) ⟨q, k, s', 0, false, P, 0, 0, ⟨q, s', k, -1, -1, [], [], []⟩⟩ := by
 subst hs; subst hq
 exact ⟨rfl, rfl, rfl, rfl, rfl, RI.new k k0 k1 _ _ 0 (by omega), rfl, rfl, rfl, rfl, fun q => by cases q⟩
theorem packet_eq (n : Nat) (p : Packet) : F34 n p p = some true := by
 unfold F34
 simp only [beq_self_eq_true, if_true, Command.eqb_refl]
def Jt (n : Nat) (a0 a1 : Int) (l : List Step) (i : Int) (rec_ : Int → Packet → Int → Int → Int → Bool → Int → Int → Int → Int → Int → Int → Int → Int → (List Thing) → (List Event) → (List (Key × List Event)) → Packet → Int → Int → Int → Int → Bool → Int → Int → Int → Int → Int → Int → Int → (List Thing) → (List Event) → (List Frame) → Option Bool) (c : Client) (r : RC) : Option Bool := zdr n i rec_ c.asked c.id_ c.n c.session c.busy c.seq c.thing c.e c.v.client c.v.session c.v.n c.v.beat c.v.start c.v.things c.v.log_ c.v.wait r.Ask r.Me r.N r.Session r.Seq r.Busy r.E r.ID r.V.Client r.V.Session r.V.N r.V.Start r.V.Beat r.V.L r.V.Log r.V.Wait
theorem j_eq {n : Nat} (hn : 10000 ≤ n) (a0 a1 : Int) (l : List Step) (i : Nat) (hi : i ≤ 50) (rec_ : Int → Packet → Int → Int → Int → Bool → Int → Int → Int → Int → Int → Int → Int → Int → (List Thing) → (List Event) → (List (Key × List Event)) → Packet → Int → Int → Int → Int → Bool → Int → Int → Int → Int → Int → Int → Int → (List Thing) → (List Event) → (List Frame) → Option Bool) {k j : Nat} {c : Client} {r : RC} (h : Sim k j c r)
  (hr : rec_ ((i + 1 : Nat) : Int) c.asked c.id_ c.n c.session c.busy c.seq c.thing c.e c.v.client c.v.session c.v.n c.v.beat c.v.start c.v.things c.v.log_ c.v.wait r.Ask r.Me r.N r.Session r.Seq r.Busy r.E r.ID r.V.Client r.V.Session r.V.N r.V.Start r.V.Beat r.V.L r.V.Log r.V.Wait = some true) : Jt n a0 a1 l i rec_ c r = some true := by
 have hl := h.ri.ll.1
 unfold Jt zdr
 unfold F40 F29 F41 F42s0 F17 F20
 simp only [yac]
 rw [if_neg (by simp [h.bz]), if_neg (by simp [h.ss]), if_neg (by simp [h.th]), if_neg (by simp [h.e]), if_neg (by simp [h.v, vOf])]
 have ht : c.v.things = r.V.L := by rw [h.v]; rfl
 rw [cloneE (l := c.v.things) (by rw [ht]; omega)]
 simp only [yac]
 rw [show F19 n c.v.things r.V.L = some true by rw [ht]; exact sameT (by omega) (by omega)]
 simp only [yac, ybb, yad, if_false]
 rw [zbz (by simp only [maxLen]; omega)]
 exact hr
theorem pk_l {n : Nat} (a0 a1 : Int) (l : List Step) (i : Nat) (rec_ : Int → Packet → Int → Int → Int → Bool → Int → Int → Int → Int → Int → Int → Int → Int → (List Thing) → (List Event) → (List (Key × List Event)) → Packet → Int → Int → Int → Int → Bool → Int → Int → Int → Int → Int → Int → Int → (List Thing) → (List Event) → (List Frame) → Option Bool) (c : Client) (r : RC) (q : List Packet) (hq : q.length ≤ 10) (hj : Jt n a0 a1 l i rec_ c r = some true) :
  ∀ (m e : Nat), e ≤ q.length → q.length - e < m → F9_l124 n i (q, c) (q, r) rec_ m (e : Int) = some true
 | 0, e, _, h => by omega
 | m + 1, e, he, h => by
  unfold F9_l124
  simp only []
  by_cases hlt : e < q.length
  ·rw [if_pos (zbl hlt), ixg _ e hlt]
   simp only [yac, packet_eq, ybb, yad, if_false]
   rw [zbz (by simp only [maxLen]; omega)]
   exact pk_l a0 a1 l i rec_ c r q hq hj m (e + 1) (by omega) (by omega)
  ·rw [if_neg (by rw [zbr hlt]; decide)]
   exact hj
theorem plays_c {n : Nat} (hn : 10000 ≤ n) (a0 a1 : Int) (l : List Step) (hl : l.length ≤ 50) (hd : ∀ s ∈ l, FD s.P.F) (k : Nat) : ∀ (m i : Nat) (c : Client) (r : RC), i ≤ l.length → l.length - i < m → Sim k i c r →
  zbh n l m (i : Int) c.asked c.id_ c.n c.session c.busy c.seq c.thing c.e c.v.client c.v.session c.v.n c.v.beat c.v.start c.v.things c.v.log_ c.v.wait r.Ask r.Me r.N r.Session r.Seq r.Busy r.E r.ID r.V.Client r.V.Session r.V.N r.V.Start r.V.Beat r.V.L r.V.Log r.V.Wait = some true
 | 0, i, _, _, _, h, _ => by omega
 | m + 1, i, c, r, hi, h, hs => by
  unfold zbh
  by_cases hlt : i < l.length
  ·have ih : ∀ c' r', Sim k (i + 1) c' r' → Jt n a0 a1 l i (zbh n l m) c' r' = some true := fun c' r' hs' =>
    j_eq hn a0 a1 l i (by omega) _ hs' (plays_c hn a0 a1 l hl hd k m (i + 1) c' r' (by omega) (by omega) hs')
   have hf := hd _ (ybq hlt)
   rw [if_pos (zbl hlt), ixg l i hlt]
   simp only [yac]
   generalize l[i] = s at hf
   by_cases w1 : decide (s.What ≤ 1) = true
   ·rw [if_pos w1]
    obtain ⟨p, e, c', r', t1, t2, t3⟩ := both_ask n hs s.To s.C
    change ((F28 n c s.To s.C).bind _) = _
    rw [t1]
    simp only [yac]
    change ((F33 n r s.To s.C).bind _) = _
    rw [t2]
    simp only [yac]
    have t4 : Sim k (i + 1) c' r' := { t3 with ri := t3.ri.mono (by omega) }
    rw [if_neg (by simp)]
    by_cases he : (e == 0) = true
    ·rw [if_pos he, packet_eq]
     simp only [yac, ybb, yad, if_false]
     exact ih c' r' t4
    ·rw [if_neg he]
     exact ih c' r' t4
   rw [if_neg w1]
   by_cases w2 : decide (s.What ≤ 3) = true
   ·rw [if_pos w2]
    obtain ⟨e, c', r', t1, t2, t3⟩ := both_handle hn hs (by omega) s.P hf
    change ((F35 n c s.P).bind _) = _
    rw [t1]
    simp only [yac]
    change ((F36 n r s.P).bind _) = _
    rw [t2]
    simp only [yac]
    rw [if_neg (by simp)]
    exact ih c' r' t3
   rw [if_neg w2]
   have hm : Sim k (i + 1) c r := { hs with ri := hs.ri.mono (by omega) }
   by_cases w3 : (s.What == 4) = true
   ·rw [if_pos w3]
    obtain ⟨q, t0, t1, t2⟩ := both_pulse n hs
    change ((F30 n c).bind _) = _
    rw [t1]
    simp only [yac]
    change ((F37 n r).bind _) = _
    rw [t2]
    simp only [yac]
    rw [if_neg (by simp)]
    exact pk_l a0 a1 l i _ c r q t0 (ih c r hm) (n + 8) 0 (by omega) (by omega)
   rw [if_neg w3]
   unfold F38s1 F39s0 F13 F14
   simp only [yac]
   obtain ⟨k0, k1, _⟩ := hs.ri.k0
   rw [hs.n, hs.n', clampk k0 k1, show imax 1 (imin (k : Int) 4) = (k : Int) by unfold imax imin; repeat' split; all_goals omega]
   have := ih _ _ { new_sim c.id_ k k0 k1 (IntKind.wrap .i64 (c.session + 1)) (IntKind.wrap .i64 (r.Session + 1)) (by rw [hs.ss]) r.Ask r.Me hs.me.symm with ri := RI.new k k0 k1 _ _ (i + 1) (by omega) }
   exact this
  ·rw [if_neg (by rw [zbr hlt]; decide)]
theorem few24 (n : Nat) (t : Thing) : ∃ b, F52 n t = some b := by
 unfold F52 F65
 simp only [yac]
 repeat' split
 all_goals exact ⟨_, rfl⟩
theorem fewS_l (n : Nat) (l : List Step) (hl : l.length ≤ maxLen) (rec_ : Int → Option Bool) (i : Nat) (hi : i < l.length) (he : l[i].P.F.Events.length ≤ 10) (hr : ∃ b, rec_ ((i + 1 : Nat) : Int) = some b ∧ (b = true → (∀ f ∈ l.drop (i + 1), f.P.F.Events.length ≤ 10) ∧ l.length ≤ 50)) :
  ∀ (m e : Nat), e ≤ l[i].P.F.Events.length → l[i].P.F.Events.length - e < m → ∃ b, F31_l11 n l (i : Int) rec_ m (e : Int) = some b ∧ (b = true → (∀ f ∈ l.drop i, f.P.F.Events.length ≤ 10) ∧ l.length ≤ 50)
 | 0, e, _, h => by omega
 | m + 1, e, h1, h2 => by
  unfold F31_l11
  rw [ixg l i hi]
  simp only [yac]
  by_cases hlt : e < l[i].P.F.Events.length
  ·rw [if_pos (zbl hlt), ixg _ e hlt]
   simp only [yac]
   obtain ⟨b1, f1⟩ := few24 n l[i].P.F.Events[e].Thing
   obtain ⟨b2, f2⟩ := few24 n (Thing.mk 0 (Point.mk 0 0) l[i].P.F.Events[e].Delta.F)
   rw [f1]
   simp only [yac]
   cases b1 with
   | false => exact ⟨false, rfl, fun h => by cases h⟩
   | true =>
    simp only [ybb, yad, if_false]
    rw [f2]
    simp only [yac]
    cases b2 with
    | false => exact ⟨false, rfl, fun h => by cases h⟩
    | true =>
     simp only [ybb, yad, if_false]
     rw [zbz (by simp only [maxLen]; omega)]
     exact fewS_l n l hl rec_ i hi he hr m (e + 1) (by omega) (by omega)
  ·rw [if_neg (by rw [zbr hlt]; decide), zbz (by omega)]
   obtain ⟨b, h3, h4⟩ := hr
   refine ⟨b, h3, fun hb => ?_⟩
   obtain ⟨h5, h6⟩ := h4 hb
   refine ⟨fun f hf => ?_, h6⟩
   rw [dropS l i hi] at hf
   cases hf with
   | head => exact he
   | tail _ hf => exact h5 f hf
theorem fewS_o {n : Nat} (l : List Step) (hl : l.length ≤ maxLen) (hn : 100 ≤ n) : ∀ (m i : Nat), i ≤ l.length → l.length - i < m → ∃ b, F31_l4 n l m (i : Int) = some b ∧ (b = true → (∀ f ∈ l.drop i, f.P.F.Events.length ≤ 10) ∧ l.length ≤ 50)
 | 0, i, _, h => by omega
 | m + 1, i, hi, h => by
  unfold F31_l4
  by_cases hlt : i < l.length
  ·rw [if_pos (zbl hlt), ixg l i hlt]
   simp only [yac]
   obtain ⟨b0, f0⟩ := fewC n l[i].C
   rw [f0]
   simp only [yac]
   cases b0 with
   | false => exact ⟨false, rfl, fun h => by cases h⟩
   | true =>
    simp only [ybb, yad, if_false]
    by_cases he : l[i].P.F.Events.length ≤ 10
    ·rw [if_neg (by simp; omega)]
     exact fewS_l n l hl _ i hlt he (fewS_o l hl hn m (i + 1) (by omega) (by omega)) (n + 8) 0 (by omega) (by omega)
    ·rw [if_pos (by simp; omega)]
     exact ⟨false, rfl, fun h => by cases h⟩
  ·rw [if_neg (by rw [zbr hlt]; decide)]
   refine ⟨_, rfl, fun hb => ⟨?_, ?_⟩⟩
   ·rw [ybc (by omega)]; simp
   ·have := of_decide_eq_true hb; omega
theorem clientPlays_pure (a0 a1 : Int) (a2 : List Step) (_ : (Lit.int .i64 a0).wf = true) (_ : (Lit.int .i64 a1).wf = true) (h2 : (∀ x ∈ a2, Step.wf x) ∧ a2.length ≤ maxLen) : ∃ n, F9 n a0 a1 a2 = some true := by
 refine ⟨a2.length + 10000, ?_⟩
 have hn : 10000 ≤ a2.length + 10000 := by omega
 obtain ⟨b, f1, f2⟩ := fewS_o (n := a2.length + 10000) a2 h2.2 (by omega) (a2.length + 10000 + 8) 0 (by omega) (by omega)
 rw [ycc] at f2
 generalize a2.length + 10000 = n at *
 have f3 : F31 n a2 = some b := f1
 unfold F9
 rw [f3]
 simp only [yac, ybb, yad, if_false]
 cases b with
 | false => rfl
 | true =>
  obtain ⟨g1, g2⟩ := f2 rfl
  obtain ⟨k, k0, k1, e1, e2⟩ := clamp a1
  rw [newC_eq n a0 a1 k k0 k1 e1]
  unfold F32 F14
  simp only [yac, ybb, yad, if_false, e2]
  rw [show imax 1 (imin (k : Int) 4) = (k : Int) by unfold imax imin; repeat' split; all_goals omega]
  have hd : ∀ s ∈ a2, FD s.P.F := fun s hs => by
   have hw : Step.wf s := h2.1 s hs
   unfold Step.wf Packet.wf at hw
   obtain ⟨_, _, _, _, _, _, _, _, _, _, _, hw, _⟩ := hw
   exact FD.of hw (by have := g1 s hs; omega)
  have hsim := new_sim (imin (imax a0 0) 3) k k0 k1 1 1 rfl nPk (imax 0 (imin a0 3)) (by unfold imax imin; repeat' split; all_goals omega)
  exact plays_c hn a0 a1 a2 g2 hd k (n + 8) 0 (newC (imin (imax a0 0) 3) k 1) ⟨imax 0 (imin a0 3), k, 1, 0, false, nPk, 0, 0, ⟨imax 0 (imin a0 3), 1, k, -1, -1, [], [], []⟩⟩ (ybs _) (by omega) hsim
end Go.Proofs.Ythdabpmcojmhhaa
