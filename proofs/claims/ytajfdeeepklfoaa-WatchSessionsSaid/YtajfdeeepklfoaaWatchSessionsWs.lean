/-
  WatchSessions: what the functions compute answers as the statement says, in plain Lean. No condition.
-/
import Derived.Test.YtajfdeeepklfoaaWatchSessionsWa
import Derived.Test.YtajfdeeepklfoaaWatchSessionsP1
namespace Go.Proofs.Ytajfdeeepklfoaa
open Go Go.Rx
set_option maxRecDepth 100000
set_option linter.unusedSimpArgs false
set_option linter.unnecessarySimpa false
set_option linter.unusedVariables false

theorem ifandS (p x : Bool) : (if p = true then some x else some false) = some (p && x) := by cases p <;> rfl
def inS (r : Rect) (p : Point) : Bool := decide (r.X0 ≤ p.X) && (decide (p.X < r.X1) && (decide (r.Y0 ≤ p.Y) && decide (p.Y < r.Y1)))
theorem inS_eq (n : Nat) (r : Rect) (p : Point) : F51 n r p = some (inS r p) := by
  unfold F51 inS
  simp only [ifandS]
theorem seesS (n : Nat) (l : A4 Watch) (k : Int) (p : Point) (h : (ofW l k).On = false) : F42 n ⟨l⟩ k p = some (false, ⟨l⟩) := by
  unfold F42
  simp only [of_eq, inS_eq, Option.bind_some, h]
  rfl
theorem fewS (n : Nat) (c : Command) : ∃ b, F37 n c = some b := by
  unfold F37
  split
  · exact ⟨_, rfl⟩
  · split
    · exact ⟨_, rfl⟩
    · split
      · exact ⟨_, rfl⟩
      · split <;> exact ⟨_, rfl⟩

/-! ### what a command leaves of a watch -/

structure Keeps (c : Command) (k x : Int) (w w' : Watch) : Prop where
  up : w.Session ≤ w'.Session
  no : x ≠ 0 → w' = w
  oth : x = 0 → k ≠ c.Client → w' = w
  new : w'.On = true → w.On = false → w'.Session ≠ w.Session

theorem keeps_same (c : Command) (k x : Int) (w : Watch) : Keeps c k x w w :=
  ⟨Int.le_refl _, fun _ => rfl, fun _ _ => rfl, fun h h' => by rw [h] at h'; cases h'⟩
theorem keeps_set (c : Command) (k : Int) (l : A4 Watch) (v : Watch) (hc : 0 ≤ c.Client ∧ c.Client < 4) (hk : 0 ≤ k ∧ k < 4)
    (h1 : (getW l c.Client).Session ≤ v.Session) (h2 : v.On = true → (getW l c.Client).On = false → v.Session ≠ (getW l c.Client).Session) :
    Keeps c k 0 (getW l k) (getW (setW l c.Client v) k) := by
  by_cases e : k = c.Client
  · subst e
    rw [get_set]
    exact ⟨h1, fun h => absurd rfl h, fun _ h => absurd rfl h, h2⟩
  · rw [get_set_ne l c.Client k v hc hk e]
    exact keeps_same c k 0 _
theorem doW_keeps (l : A4 Watch) (c : Command) (t k : Int) (hk : 0 ≤ k ∧ k < 4) : Keeps c k (doW l c t).1 (getW l k) (getW (doW l c t).2 k) := by
  unfold doW
  generalize hg : getW l c.Client = w
  dsimp only
  split
  · exact keeps_same ..
  · rename_i hc
    have hcl := isC_client (c := c) (by simpa using hc)
    split
    · exact keeps_same ..
    · split
      · split
        · exact keeps_same ..
        · rename_i _ _ hs
          have hs' : w.Session < c.Session := by simpa using hs
          exact keeps_set c k l _ hcl hk (by rw [hg]; show w.Session ≤ c.Session; omega) (fun _ _ => by rw [hg]; show c.Session ≠ w.Session; omega)
      · split
        · exact keeps_same ..
        · rename_i ho
          split
          · exact keeps_same ..
          · split
            · exact keeps_set c k l _ hcl hk (by rw [hg]; exact Int.le_refl _) (fun h h' => by
                rw [hg] at h'; rw [h'] at ho; exact absurd rfl ho)
            · exact keeps_set c k l _ hcl hk (by rw [hg]; exact Int.le_refl _) (fun h => by cases h)

/-! ### the round for one client -/

def endS (w w' : Watch) (r : Option Bool) : Option Bool :=
  if w'.On then if !(w.On) then if w'.Session == w.Session then some false else r else r else r
def stepS (n : Nat) (a0 : List Step) (a1 : Point) (i k : Int) (w w' : Watch) (x : Int) (g : Book) (cont : Book → Option Bool) : Option Bool :=
  if x != 0 then
    if !(Watch.eqb w' w) then some false
    else if decide (w'.Session < w.Session) then some false
    else if !(w'.On) then (F42 n g k a1).bind fun r => if r.1 then some false else endS w w' (cont r.2)
    else endS w w' (cont g)
  else
    (ix a0 i).bind fun s =>
    if k != s.C.Client then
      if !(Watch.eqb w' w) then some false
      else if decide (w'.Session < w.Session) then some false
      else if !(w'.On) then (F42 n g k a1).bind fun r => if r.1 then some false else endS w w' (cont r.2)
      else endS w w' (cont g)
    else if decide (w'.Session < w.Session) then some false
    else if !(w'.On) then (F42 n g k a1).bind fun r => if r.1 then some false else endS w w' (cont r.2)
    else endS w w' (cont g)

theorem endS_true {w w' : Watch} {r : Option Bool} (hn : w'.On = true → w.On = false → w'.Session ≠ w.Session) (hr : r = some true) : endS w w' r = some true := by
  unfold endS
  cases ho : w'.On with
  | false => exact hr
  | true =>
    cases hw : w.On with
    | true => exact hr
    | false =>
      have : (w'.Session == w.Session) = false := beq_eq_false_iff_ne.2 (hn ho hw)
      rw [this]
      exact hr
theorem restS {n : Nat} {a1 : Point} {k : Int} {w w' : Watch} {l : A4 Watch} {cont : Book → Option Bool} {c : Command} {x : Int} (hk : Keeps c k x w w') (hw : ofW l k = w') (hr : cont ⟨l⟩ = some true) :
    (if decide (w'.Session < w.Session) then some false
    else if !(w'.On) then (F42 n ⟨l⟩ k a1).bind fun r => if r.1 then some false else endS w w' (cont r.2)
    else endS w w' (cont ⟨l⟩)) = some true := by
  have := hk.up
  rw [if_neg (by simp; omega)]
  cases ho : w'.On with
  | false =>
    rw [seesS n l k a1 (by rw [hw]; exact ho)]
    exact endS_true hk.new hr
  | true => exact endS_true hk.new hr
theorem stepS_true {n : Nat} {a0 : List Step} {a1 : Point} {i k : Int} {w w' : Watch} {x : Int} {l : A4 Watch} {cont : Book → Option Bool} {s : Step}
    (hs : ix a0 i = some s) (hk : Keeps s.C k x w w') (hw : ofW l k = w') (hr : cont ⟨l⟩ = some true) : stepS n a0 a1 i k w w' x ⟨l⟩ cont = some true := by
  unfold stepS
  by_cases hx : x = 0
  · rw [if_neg (by simp [hx]), hs, Option.bind_some]
    by_cases hc : k = s.C.Client
    · rw [if_neg (by simp [hc])]
      exact restS hk hw hr
    · have e := hk.oth hx hc
      rw [if_pos (by simp [hc])]
      rw [if_neg (by rw [e, Watch.eqb_refl]; decide)]
      exact restS hk hw hr
  · have e := hk.no hx
    rw [if_pos (by simp [hx])]
    rw [if_neg (by rw [e, Watch.eqb_refl]; decide)]
    exact restS hk hw hr

theorem u22_eq (n : Nat) (a0 : List Step) (a1 : Point) (i : Int) (p : A4 Watch × Book) (q : Int × Book) (r : A4 Watch × Book) (re : Book → Int → Option Bool) (g : Book) :
    F12_u22 n a0 a1 i p q r re g = stepS n a0 a1 i 1 p.1.a1 r.1.a1 q.1 g (F12_u28 n a0 a1 i p q r re) := rfl
theorem u28_eq (n : Nat) (a0 : List Step) (a1 : Point) (i : Int) (p : A4 Watch × Book) (q : Int × Book) (r : A4 Watch × Book) (re : Book → Int → Option Bool) (g : Book) :
    F12_u28 n a0 a1 i p q r re g = stepS n a0 a1 i 2 p.1.a2 r.1.a2 q.1 g (F12_u34 n a0 a1 i p q r re) := rfl
theorem u34_eq (n : Nat) (a0 : List Step) (a1 : Point) (i : Int) (p : A4 Watch × Book) (q : Int × Book) (r : A4 Watch × Book) (re : Book → Int → Option Bool) (g : Book) :
    F12_u34 n a0 a1 i p q r re g = stepS n a0 a1 i 3 p.1.a3 r.1.a3 q.1 g (F12_u40 n i re) := rfl

theorem sess_l9 (n : Nat) (a0 : List Step) (a1 : Point) (hl : a0.length ≤ 60) : ∀ (m i : Nat) (l : A4 Watch), i ≤ a0.length → a0.length - i < m →
    F12_l9 n a0 a1 m ⟨l⟩ (i : Int) = some true
  | 0, i, l, _, h => by omega
  | m + 1, i, l, h1, h2 => by
    unfold F12_l9
    by_cases hi : i < a0.length
    · rw [if_pos (lt_dec hi)]
      have hs := ixg a0 i hi
      simp only [hs, Option.bind_some]
      generalize a0[i] = s at hs ⊢
      obtain ⟨b, hb⟩ := fewS n s.C
      rw [hb]
      simp only [Option.bind_some]
      cases b with
      | false => rfl
      | true =>
        rw [if_neg (by simp)]
        have ha : ∀ l, F41 n ⟨l⟩ = some (l, ⟨l⟩) := fun _ => rfl
        simp only [ha, Option.bind_some, do_eq]
        have K := doW_keeps l s.C s.Beat
        have ih := sess_l9 n a0 a1 hl m (i + 1) (doW l s.C s.Beat).2 (by omega) (by omega)
        rw [← dsucc (show i < maxLen by simp only [maxLen]; omega)] at ih
        generalize (doW l s.C s.Beat).2 = l' at *
        generalize (doW l s.C s.Beat).1 = x at *
        have c3 := stepS_true (n := n) (a1 := a1) (cont := F12_u40 n (i : Int) (F12_l9 n a0 a1 m)) hs (K 3 (by omega)) (ofW_in (by omega)) ih
        replace c3 := (u34_eq n a0 a1 (i : Int) (l, ⟨l⟩) (x, ⟨l'⟩) (l', ⟨l'⟩) (F12_l9 n a0 a1 m) ⟨l'⟩).trans c3
        have c2 := stepS_true (n := n) (a1 := a1) (cont := F12_u34 n a0 a1 (i : Int) (l, ⟨l⟩) (x, ⟨l'⟩) (l', ⟨l'⟩) (F12_l9 n a0 a1 m)) hs (K 2 (by omega)) (ofW_in (by omega)) c3
        replace c2 := (u28_eq n a0 a1 (i : Int) (l, ⟨l⟩) (x, ⟨l'⟩) (l', ⟨l'⟩) (F12_l9 n a0 a1 m) ⟨l'⟩).trans c2
        have c1 := stepS_true (n := n) (a1 := a1) (cont := F12_u28 n a0 a1 (i : Int) (l, ⟨l⟩) (x, ⟨l'⟩) (l', ⟨l'⟩) (F12_l9 n a0 a1 m)) hs (K 1 (by omega)) (ofW_in (by omega)) c2
        replace c1 := (u22_eq n a0 a1 (i : Int) (l, ⟨l⟩) (x, ⟨l'⟩) (l', ⟨l'⟩) (F12_l9 n a0 a1 m) ⟨l'⟩).trans c1
        have c0 := stepS_true (n := n) (a1 := a1) (cont := F12_u22 n a0 a1 (i : Int) (l, ⟨l⟩) (x, ⟨l'⟩) (l', ⟨l'⟩) (F12_l9 n a0 a1 m)) hs (K 0 (by omega)) (ofW_in (by omega)) c1
        unfold stepS endS at c0
        rw [hs] at c0
        exact c0
    · rw [if_neg (by rw [ge_dec hi]; decide)]

theorem watchSessions_pure (a0 : List Step) (a1 : Point) (_ : (∀ x ∈ a0, Step.wf x) ∧ a0.length ≤ maxLen) (_ : Point.wf a1) : ∃ n, F12 n a0 a1 = some true := by
  refine ⟨100, ?_⟩
  unfold F12
  simp only [Option.bind_some, Bool.not_true, Bool.false_eq_true, if_false]
  by_cases g : (60 : Int) < (a0.length : Int)
  · rw [if_pos (by simpa using g)]
  rw [if_neg (by simpa using g)]
  exact sess_l9 100 a0 a1 (by omega) (100 + 8) 0 ⟨zeroW, zeroW, zeroW, zeroW⟩ (by omega) (by omega)

end Go.Proofs.Ytajfdeeepklfoaa
