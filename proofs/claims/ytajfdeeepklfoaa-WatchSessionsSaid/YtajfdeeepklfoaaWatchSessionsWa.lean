/-
  Commands of watchers: what the functions compute, in plain Lean. No condition.
-/
import Derived.Test.YtajfdeeepklfoaaWatchSessionsV
import Derived.Test.YtajfdeeepklfoaaWatchSessionsP1
namespace Go.Proofs.Ytajfdeeepklfoaa
open Go Go.Rx
set_option maxRecDepth 100000
set_option linter.unusedSimpArgs false
set_option linter.unnecessarySimpa false
set_option linter.unusedVariables false

theorem d64 {n : Int} (h : -9223372036854775808 ≤ n) (h' : n ≤ 9223372036854775807) : IntKind.wrap .i64 n = n := by
  simp [IntKind.wrap, IntKind.bits, IntKind.signed]; omega
theorem ixg {α : Type} (l : List α) (i : Nat) (h : i < l.length) : ix l (i : Int) = some l[i] := by
  unfold ix; rw [if_neg (by omega)]; simp [h]
theorem dsucc {i : Nat} (h : i < maxLen) : IntKind.wrap .i64 ((i : Int) + 1) = ((i + 1 : Nat) : Int) := by
  simp only [maxLen] at h
  rw [d64 (by omega) (by omega)]; push_cast; rfl
theorem lt_dec {i n : Nat} (h : i < n) : decide ((i : Int) < (n : Int)) = true := by simp; omega
theorem ge_dec {i n : Nat} (h : ¬ i < n) : decide ((i : Int) < (n : Int)) = false := by simp; omega

theorem ba_refl (a : ByteArray) : (a == a) = true := (ba_beq a a).2 rfl
theorem Point.eqb_refl (x : Point) : Point.eqb x x = true := by simp [Point.eqb]
theorem Rect.eqb_refl (x : Rect) : Rect.eqb x x = true := by simp [Rect.eqb]
theorem Field.eqb_refl (x : Field) : Field.eqb x x = true := by simp [Field.eqb, ba_refl]
theorem A4_Field.eqb_refl (x : A4 Field) : A4_Field.eqb x x = true := by simp [A4_Field.eqb, Field.eqb_refl]
theorem Command.eqb_refl (x : Command) : Command.eqb x x = true := by simp [Command.eqb, Point.eqb_refl, A4_Field.eqb_refl, Field.eqb_refl, Rect.eqb_refl]
theorem Watch.eqb_refl (x : Watch) : Watch.eqb x x = true := by simp [Watch.eqb, Rect.eqb_refl]

/-! ### which commands are any -/

def isF (f : Field) : Bool := (f.N == 0 || f.Text.toList == ByteArray.empty.toList) && decide ((f.Text.size : Int) ≤ 12)
theorem isF_eq (n : Nat) (f : Field) : F73 n f = some (isF f) := by
  unfold F73 isF
  generalize (f.N == 0) = p
  generalize (f.Text.toList == ByteArray.empty.toList) = q
  cases p <;> cases q <;> simp

def near (x : Int) : Bool := decide (-1000 ≤ x) && decide (x ≤ 1000)
theorem near_l (n : Nat) (l : List Int) (hl : l.length ≤ 8) : ∀ (m i : Nat), i ≤ l.length → l.length - i < m → F75_l4 n l m (i : Int) = some ((l.drop i).all near)
  | 0, i, _, h => by omega
  | m + 1, i, h1, h2 => by
    unfold F75_l4
    by_cases hi : i < l.length
    · have ed : l.drop i = l[i] :: l.drop (i + 1) := by rw [List.drop_eq_getElem_cons hi]
      have ea : (l.drop i).all near = (near l[i] && (l.drop (i + 1)).all near) := by rw [ed, List.all_cons]
      simp only [lt_dec hi, if_true, ixg l i hi, Option.bind_some, dsucc (show i < maxLen by simp only [maxLen]; omega), ea, near_l n l hl m (i + 1) (by omega) (by omega)]
      generalize l[i] = x
      unfold near
      by_cases h3 : (-1000 : Int) ≤ x <;> by_cases h4 : x ≤ 1000 <;> simp [h3, h4]
    · have ed : l.drop i = [] := List.drop_eq_nil_of_le (by omega)
      simp only [ge_dec hi, Bool.false_eq_true, if_false, ed, List.all_nil]
theorem near_eq (n : Nat) (l : List Int) (hl : l.length ≤ 7) : F75 n l = some (l.all near) := by
  unfold F75
  have := near_l n l (by omega) (n + 8) 0 (by omega) (by omega)
  simpa using this

/-- What a command's kind has of it. -/
def coreC (c : Command) : Command := (F74 0 c).getD c
theorem core_eq (n : Nat) (c : Command) : F74 n c = some (coreC c) := by
  have h : ∀ m, F74 m c = F74 0 c := fun m => rfl
  rw [h n]
  unfold coreC
  have : (F74 0 c).isSome := by
    unfold F74
    repeat (split <;> try rfl)
  obtain ⟨r, hr⟩ := Option.isSome_iff_exists.1 this
  rw [hr]; rfl

def boundsC (c : Command) : Bool := (decide (0 ≤ c.Client) && (decide (c.Client < 4) && (decide (0 ≤ c.Session) && decide (c.Session ≤ 1000000)))) &&
  ((decide (0 ≤ c.ID) && (decide (c.ID ≤ 1000000) && (decide (-1 ≤ c.Which) && (decide (c.Which ≤ 100) && (decide (-1 ≤ c.To) && (decide (c.To ≤ 100) && isF c.Value)))))) &&
    [c.At.X, c.At.Y, c.Rect.X0, c.Rect.Y0, c.Rect.X1, c.Rect.Y1].all near)
def isC (c : Command) : Bool := (isF c.F.a0 && (isF c.F.a1 && (isF c.F.a2 && isF c.F.a3))) && ((decide (1 ≤ c.Kind) && (decide (c.Kind ≤ 8) && Command.eqb c (coreC c))) && boundsC c)

theorem isC_eq (n : Nat) (c : Command) : F63 n c = some (isC c) := by
  have j12 : ∀ x y z, F63_j12 n c x y z = some (x && (y && (z && [c.At.X, c.At.Y, c.Rect.X0, c.Rect.Y0, c.Rect.X1, c.Rect.Y1].all near))) := by
    intro x y z
    unfold F63_j12
    rw [near_eq n _ (by simp)]
    cases x <;> cases y <;> cases z <;> simp
  have j9 : ∀ x y, F63_j9 n c x y = some (x && (y && ((decide (0 ≤ c.ID) && (decide (c.ID ≤ 1000000) && (decide (-1 ≤ c.Which) && (decide (c.Which ≤ 100) && (decide (-1 ≤ c.To) && (decide (c.To ≤ 100) && isF c.Value)))))) && [c.At.X, c.At.Y, c.Rect.X0, c.Rect.Y0, c.Rect.X1, c.Rect.Y1].all near))) := by
    intro x y
    unfold F63_j9
    simp only [j12, isF_eq, Option.bind_some]
    by_cases h1 : (0 : Int) ≤ c.ID
    · by_cases h2 : c.ID ≤ 1000000
      · by_cases h3 : (-1 : Int) ≤ c.Which
        · by_cases h4 : c.Which ≤ 100
          · by_cases h5 : (-1 : Int) ≤ c.To
            · by_cases h6 : c.To ≤ 100 <;> simp only [h1, h2, h3, h4, h5, h6, decide_true, decide_false, if_true, Bool.false_eq_true, if_false, Bool.true_and, Bool.false_and, Bool.and_false]
            · simp only [h1, h2, h3, h4, h5, decide_true, decide_false, if_true, Bool.false_eq_true, if_false, Bool.true_and, Bool.false_and, Bool.and_false]
          · simp only [h1, h2, h3, h4, decide_true, decide_false, if_true, Bool.false_eq_true, if_false, Bool.true_and, Bool.false_and, Bool.and_false]
        · simp only [h1, h2, h3, decide_true, decide_false, if_true, Bool.false_eq_true, if_false, Bool.true_and, Bool.false_and, Bool.and_false]
      · simp only [h1, h2, decide_true, decide_false, if_true, Bool.false_eq_true, if_false, Bool.true_and, Bool.false_and, Bool.and_false]
    · simp only [h1, decide_true, decide_false, if_true, Bool.false_eq_true, if_false, Bool.true_and, Bool.false_and, Bool.and_false]
  have j7 : ∀ x, F63_j7 n c x = some (x && boundsC c) := by
    intro x
    unfold F63_j7 boundsC
    simp only [j9]
    by_cases h1 : (0 : Int) ≤ c.Client
    · by_cases h2 : c.Client < 4
      · by_cases h3 : (0 : Int) ≤ c.Session <;> simp only [h1, h2, h3, decide_true, decide_false, if_true, Bool.false_eq_true, if_false, Bool.true_and, Bool.false_and, Bool.and_false]
      · simp only [h1, h2, decide_true, decide_false, if_true, Bool.false_eq_true, if_false, Bool.true_and, Bool.false_and, Bool.and_false]
    · simp only [h1, decide_true, decide_false, if_true, Bool.false_eq_true, if_false, Bool.true_and, Bool.false_and, Bool.and_false]
  unfold F63 isC
  simp only [isF_eq, Option.bind_some, core_eq, j7]
  cases isF c.F.a0
  · rfl
  · cases isF c.F.a1
    · rfl
    · cases isF c.F.a2
      · rfl
      · cases isF c.F.a3
        · rfl
        · by_cases h1 : (1 : Int) ≤ c.Kind
          · by_cases h2 : c.Kind ≤ 8 <;> simp [h1, h2]
          · simp [h1]

def watchesC (c : Command) : Bool := decide (6 ≤ c.Kind) && decide (c.Kind ≤ 8)
theorem watches_eq (n : Nat) (c : Command) : F64 n c = some (watchesC c) := by
  unfold F64 watchesC
  by_cases h : (6 : Int) ≤ c.Kind <;> simp [h]

def emptyR (r : Rect) : Bool := decide (r.X1 ≤ r.X0) || decide (r.Y1 ≤ r.Y0)
def clipR (r : Rect) : Rect := let q := Rect.mk (imax r.X0 0) (imax r.Y0 0) (imin r.X1 64) (imin r.Y1 64); if emptyR q then Rect.mk 0 0 0 0 else q
theorem empty_eq (n : Nat) (r : Rect) : F58 n r = some (emptyR r) := by
  unfold F58 emptyR
  by_cases h : r.X1 ≤ r.X0 <;> simp [h]
theorem clip_eq (n : Nat) (r : Rect) : F45 n r = some (clipR r) := by
  unfold F45 F67 F80 clipR
  simp only [empty_eq, Option.bind_some]
  split <;> rfl

/-! ### the book -/

def getW (l : A4 Watch) (k : Int) : Watch := if k = 0 then l.a0 else if k = 1 then l.a1 else if k = 2 then l.a2 else l.a3
def setW (l : A4 Watch) (k : Int) (w : Watch) : A4 Watch := if k = 0 then ⟨w, l.a1, l.a2, l.a3⟩ else if k = 1 then ⟨l.a0, w, l.a2, l.a3⟩ else if k = 2 then ⟨l.a0, l.a1, w, l.a3⟩ else ⟨l.a0, l.a1, l.a2, w⟩
def zeroW : Watch := Watch.mk false 0 0 (Rect.mk 0 0 0 0)
theorem four {k : Int} (h0 : 0 ≤ k) (h4 : k < 4) : k = 0 ∨ k = 1 ∨ k = 2 ∨ k = 3 := by omega
theorem get_set (l : A4 Watch) (k : Int) (w : Watch) : getW (setW l k w) k = w := by
  unfold getW setW
  by_cases h0 : k = 0
  · simp [h0]
  · by_cases h1 : k = 1
    · simp [h1]
    · by_cases h2 : k = 2
      · simp [h2]
      · simp [h0, h1, h2]
theorem get_set_ne (l : A4 Watch) (k j : Int) (w : Watch) (hk : 0 ≤ k ∧ k < 4) (hj : 0 ≤ j ∧ j < 4) (hne : j ≠ k) : getW (setW l k w) j = getW l j := by
  obtain rfl | rfl | rfl | rfl := four hk.1 hk.2 <;> obtain rfl | rfl | rfl | rfl := four hj.1 hj.2 <;> first | (exact absurd rfl hne) | simp [getW, setW]

/-- What a command does to the book. -/
def doW (l : A4 Watch) (c : Command) (t : Int) : Int × A4 Watch :=
  if !(isC c) then (11, l) else if !(watchesC c) then (11, l) else
  let w := getW l c.Client
  if c.Kind == 6 then
    if decide (c.Session ≤ w.Session) then (20, l) else (0, setW l c.Client (Watch.mk true c.Session t (clipR c.Rect)))
  else if !(w.On) then (20, l) else if c.Session != w.Session then (20, l) else
    if c.Kind == 7 then (0, setW l c.Client (Watch.mk w.On w.Session w.Start (clipR c.Rect)))
    else (0, setW l c.Client (Watch.mk false w.Session w.Start (Rect.mk 0 0 0 0)))

theorem isC_client {c : Command} (h : isC c = true) : 0 ≤ c.Client ∧ c.Client < 4 := by
  unfold isC boundsC at h
  simp only [Bool.and_eq_true, decide_eq_true_eq] at h
  exact ⟨h.2.2.1.1, h.2.2.1.2.1⟩

def brW (c : Command) (t : Int) (w : Watch) (l : A4 Watch) (put : Watch → A4 Watch) : Option (Int × Book) :=
  if c.Kind == 6 then
    if decide (c.Session ≤ w.Session) then some (20, ⟨l⟩) else some (0, ⟨put (Watch.mk true c.Session t (clipR c.Rect))⟩)
  else if !(w.On) then some (20, ⟨l⟩) else if c.Session != w.Session then some (20, ⟨l⟩) else
    if c.Kind == 7 then some (0, ⟨put (Watch.mk w.On w.Session w.Start (clipR c.Rect))⟩)
    else some (0, ⟨put (Watch.mk false w.Session w.Start (Rect.mk 0 0 0 0))⟩)

theorem do_eq (n : Nat) (l : A4 Watch) (c : Command) (t : Int) : F39 n ⟨l⟩ c t = some ((doW l c t).1, ⟨(doW l c t).2⟩) := by
  have br : ∀ w put, getW l c.Client = w → (∀ x, setW l c.Client x = put x) → isC c = true → watchesC c = true → brW c t w l put = some ((doW l c t).1, ⟨(doW l c t).2⟩) := by
    intro w put hw hp hc hwc
    unfold brW doW
    simp only [hc, hwc, hw, hp, Bool.not_true, Bool.false_eq_true, if_false]
    generalize (c.Kind == 6) = k6
    generalize (c.Kind == 7) = k7
    generalize decide (c.Session ≤ w.Session) = s1
    generalize (c.Session != w.Session) = s2
    generalize hon : w.On = on
    cases k6 <;> cases k7 <;> cases s1 <;> cases s2 <;> cases on <;> rfl
  unfold F39
  simp only [isC_eq, watches_eq, clip_eq, Option.bind_some]
  cases hc : isC c with
  | false => unfold doW; simp only [hc]; rfl
  | true =>
    cases hw : watchesC c with
    | false => unfold doW; simp only [hc, hw]; rfl
    | true =>
      simp only [Bool.not_true, Bool.false_eq_true, if_false]
      obtain ⟨h0, h4⟩ := isC_client hc
      obtain e | e | e | e := four h0 h4
      · rw [if_pos e]
        exact br l.a0 (fun w => ⟨w, l.a1, l.a2, l.a3⟩) (by rw [e]; rfl) (fun x => by rw [e]; rfl) hc hw
      · rw [if_neg (by omega), if_pos e]
        exact br l.a1 (fun w => ⟨l.a0, w, l.a2, l.a3⟩) (by rw [e]; rfl) (fun x => by rw [e]; rfl) hc hw
      · rw [if_neg (by omega), if_neg (by omega), if_pos e]
        exact br l.a2 (fun w => ⟨l.a0, l.a1, w, l.a3⟩) (by rw [e]; rfl) (fun x => by rw [e]; rfl) hc hw
      · rw [if_neg (by omega), if_neg (by omega), if_neg (by omega), if_pos e]
        exact br l.a3 (fun w => ⟨l.a0, l.a1, l.a2, w⟩) (by rw [e]; rfl) (fun x => by rw [e]; rfl) hc hw

def ofW (l : A4 Watch) (k : Int) : Watch := if k < 0 then zeroW else if 4 ≤ k then zeroW else getW l k
theorem of_eq (n : Nat) (l : A4 Watch) (k : Int) : F44 n ⟨l⟩ k = some (ofW l k, ⟨l⟩) := by
  unfold F44 ofW
  by_cases h0 : k < 0
  · simp [h0, zeroW]
  · by_cases h4 : 4 ≤ k
    · simp [h0, h4, zeroW]
    · obtain rfl | rfl | rfl | rfl := four (k := k) (by omega) (by omega) <;> simp [getW]
theorem ofW_in {l : A4 Watch} {k : Int} (h : 0 ≤ k ∧ k < 4) : ofW l k = getW l k := by
  unfold ofW; rw [if_neg (by omega), if_neg (by omega)]

end Go.Proofs.Ytajfdeeepklfoaa
