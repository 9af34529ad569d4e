/-
  WatchPlays: what the functions compute answers as the statement says, in plain Lean. No condition.
-/
import Derived.Test.YtajfdeeepklfoaaWatchPlaysWa
import Derived.Test.YtajfdeeepklfoaaWatchPlaysP1
namespace Go.Proofs.Ytajfdeeepklfoaa
open Go Go.Rx
set_option maxRecDepth 100000
set_option linter.unusedSimpArgs false
set_option linter.unnecessarySimpa false
set_option linter.unusedVariables false

theorem A4_Watch.eqb_refl (x : A4 Watch) : A4_Watch.eqb x x = true := by simp [A4_Watch.eqb, Watch.eqb_refl]

/-! ### the reference's functions are the program's -/

theorem shape_eq (n : Nat) (c : Command) : F77 n c = some (coreC c) :=
  (show F77 n c = F74 n c from rfl).trans (core_eq n c)
theorem within_eq (n : Nat) (x a b : Int) : F76 n x a b = some (decide (a ≤ x) && decide (x ≤ b)) := by
  unfold F76
  by_cases h : a ≤ x <;> simp [h]
theorem risF_eq (n : Nat) (f : Field) : F70 n f = some (isF f) := by
  unfold F70 isF
  generalize (f.N == 0) = p
  generalize (f.Text.toList == ByteArray.empty.toList) = q
  cases p <;> cases q <;> simp
theorem ifand (p x y : Bool) : (if p = true then some x else some (false && y)) = some (p && x) := by cases p <;> rfl
theorem ifand' (p x : Bool) : (if p = true then some x else some false) = some (p && x) := by cases p <;> rfl
theorem rpoint_eq (n : Nat) (p : Point) : F78 n p = some (near p.X && near p.Y) := by
  unfold F78 near
  simp only [within_eq, Option.bind_some, ifand']
theorem rrect_eq (n : Nat) (r : Rect) : F79 n r = some ((near r.X0 && near r.Y0) && (near r.X1 && near r.Y1)) := by
  unfold F79
  simp only [rpoint_eq, Option.bind_some, ifand']
theorem rj12_eq (n : Nat) (c : Command) (b : Bool) : F65_j12 n c b = some (b && (isF c.F.a0 && (isF c.F.a1 && (isF c.F.a2 && isF c.F.a3)))) := by
  unfold F65_j12 F65_u15 F65_u18 F65_u21 F65_u24
  simp only [risF_eq, Option.bind_some]
  cases b <;> cases isF c.F.a0 <;> cases isF c.F.a1 <;> cases isF c.F.a2 <;> simp
theorem ris_eq (n : Nat) (c : Command) : F65 n c = some (isC c) := by
  unfold F65
  simp only [rj12_eq, within_eq, shape_eq, rpoint_eq, rrect_eq, risF_eq, Option.bind_some, ifand]
  have e3 : decide (c.Client ≤ 3) = decide (c.Client < 4) := by
    rw [decide_eq_decide]; omega
  unfold isC boundsC
  simp only [List.all_cons, List.all_nil, Bool.and_true, e3]
  congr 1
  ac_rfl
theorem rwatches_eq (n : Nat) (c : Command) : F66 n c = some (watchesC c) := by
  unfold F66 watchesC
  simp only [within_eq, Option.bind_some]
theorem rempty_eq (n : Nat) (r : Rect) : F59 n r = some (emptyR r) := by
  unfold F59 emptyR
  by_cases h : r.X1 ≤ r.X0 <;> simp [h]
theorem rclip_eq (n : Nat) (r : Rect) : F46 n r = some (clipR r) := by
  unfold F46 F68 F60 clipR
  simp only [rempty_eq, Option.bind_some]
  split <;> rfl

def inR (r : Rect) (p : Point) : Bool := decide (r.X0 ≤ p.X) && (decide (p.X < r.X1) && (decide (r.Y0 ≤ p.Y) && decide (p.Y < r.Y1)))
theorem in_eq (n : Nat) (r : Rect) (p : Point) : F51 n r p = some (inR r p) := by
  unfold F51 inR
  simp only [ifand']
theorem rin_eq (n : Nat) (r : Rect) (p : Point) : F23 n r p = some (inR r p) := by
  unfold F23 inR
  simp only [ifand']
def seesW (l : A4 Watch) (k : Int) (p : Point) : Bool := (ofW l k).On && inR (ofW l k).Rect p
theorem sees_eq (n : Nat) (l : A4 Watch) (k : Int) (p : Point) : F42 n ⟨l⟩ k p = some (seesW l k p, ⟨l⟩) := by
  unfold F42 seesW
  simp only [of_eq, in_eq, Option.bind_some]
  cases (ofW l k).On <;> rfl
theorem rsees_eq (n : Nat) (l : A4 Watch) (k : Int) (p : Point) : F43 n ⟨l⟩ k p = some (seesW l k p, ⟨l⟩) := by
  unfold F43 seesW
  simp only [rin_eq, Option.bind_some]
  by_cases h0 : 0 ≤ k
  · by_cases h4 : k < 4
    · rw [ofW_in ⟨h0, h4⟩]
      obtain rfl | rfl | rfl | rfl := four h0 h4
      · simp [getW]; cases l.a0.On <;> rfl
      · simp [getW]; cases l.a1.On <;> rfl
      · simp [getW]; cases l.a2.On <;> rfl
      · simp [getW]; cases l.a3.On <;> rfl
    · unfold ofW
      simp [h0, h4, show ¬ k < 0 by omega, show 4 ≤ k by omega, zeroW]
  · unfold ofW
    simp [h0, show k < 0 by omega, zeroW]

theorem rdo_eq (n : Nat) (l : A4 Watch) (c : Command) (t : Int) : F40 n ⟨l⟩ c t = some ((doW l c t).1, ⟨(doW l c t).2⟩) := by
  have j22 : ∀ w : Watch, 0 ≤ c.Client ∧ c.Client < 4 → F40_j22 n ⟨l⟩ c t w.On w.Session w.Start w.Rect.X0 w.Rect.Y0 w.Rect.X1 w.Rect.Y1 = some (0, ⟨setW l c.Client w⟩) := by
    intro w hk
    unfold F40_j22
    obtain e | e | e | e := four hk.1 hk.2
    · rw [if_pos e, e]; rfl
    · rw [if_neg (by omega), if_pos e, e]; rfl
    · rw [if_neg (by omega), if_neg (by omega), if_pos e, e]; rfl
    · rw [if_neg (by omega), if_neg (by omega), if_neg (by omega), if_pos e, e]; rfl
  have br : ∀ w, getW l c.Client = w → isC c = true → watchesC c = true → F40_j10 n ⟨l⟩ c t w.On w.Session w.Start w.Rect.X0 w.Rect.Y0 w.Rect.X1 w.Rect.Y1 = some ((doW l c t).1, ⟨(doW l c t).2⟩) := by
    intro w hw hc hwc
    have hk := isC_client hc
    have e1 := j22 (Watch.mk true c.Session t (clipR c.Rect)) hk
    have e2 := j22 (Watch.mk w.On w.Session w.Start (clipR c.Rect)) hk
    have e3 := j22 (Watch.mk false w.Session w.Start (Rect.mk 0 0 0 0)) hk
    unfold F40_j10 F40_j11 F40_j12 doW
    simp only [hc, hwc, hw, Bool.not_true, Bool.false_eq_true, if_false, rclip_eq, Option.bind_some, bne]
    simp only at e1 e2 e3
    simp only [e1, e2, e3]
    generalize (c.Kind == 6) = k6
    generalize (c.Kind == 7) = k7
    generalize decide (c.Session ≤ w.Session) = s1
    generalize (c.Session == w.Session) = s2
    generalize w.On = on
    cases k6 <;> cases k7 <;> cases s1 <;> cases s2 <;> cases on <;> rfl
  unfold F40
  simp only [ris_eq, rwatches_eq, Option.bind_some]
  cases hc : isC c with
  | false => unfold doW; simp only [hc]; rfl
  | true =>
    cases hw : watchesC c with
    | false => unfold doW; simp only [hc, hw]; rfl
    | true =>
      simp only [Bool.not_true, Bool.false_eq_true, if_false]
      obtain ⟨h0, h4⟩ := isC_client hc
      obtain e | e | e | e := four h0 h4
      · rw [if_pos e]
        exact br l.a0 (by rw [e]; rfl) hc hw
      · rw [if_neg (by omega), if_pos e]
        exact br l.a1 (by rw [e]; rfl) hc hw
      · rw [if_neg (by omega), if_neg (by omega), if_pos e]
        exact br l.a2 (by rw [e]; rfl) hc hw
      · rw [if_neg (by omega), if_neg (by omega), if_neg (by omega), if_pos e]
        exact br l.a3 (by rw [e]; rfl) hc hw

/-! ### the loop -/

theorem few_eq (n : Nat) (c : Command) : ∃ b, F37 n c = some b := by
  unfold F37
  split
  · exact ⟨_, rfl⟩
  · split
    · exact ⟨_, rfl⟩
    · split
      · exact ⟨_, rfl⟩
      · split <;> exact ⟨_, rfl⟩
theorem copy_eq (n : Nat) (l : A4 Watch) : F38 n ⟨l⟩ = some (⟨l⟩, ⟨l⟩) := rfl
theorem all_eq (n : Nat) (l : A4 Watch) : F41 n ⟨l⟩ = some (l, ⟨l⟩) := rfl

theorem plays_j192 (n : Nat) (a0 : List Step) (a1 : Point) (a2 : Int) (a3 : Rect) (i x : Int) (l : A4 Watch) (w : Watch)
    (rec_l174 : Int → Bool → Int → Int → Int → Int → Int → Int → Bool → Int → Int → Int → Int → Int → Int → Bool → Int → Int → Int → Int → Int → Int → Bool → Int → Int → Int → Int → Int → Int → Bool → Int → Int → Int → Int → Int → Int → Bool → Int → Int → Int → Int → Int → Int → Bool → Int → Int → Int → Int → Int → Int → Bool → Int → Int → Int → Int → Int → Int → Option Bool) (hw : ofW l a2 = w)
    (h : rec_l174 (IntKind.wrap .i64 (i + 1)) l.a0.On l.a0.Session l.a0.Start l.a0.Rect.X0 l.a0.Rect.Y0 l.a0.Rect.X1 l.a0.Rect.Y1 l.a1.On l.a1.Session l.a1.Start l.a1.Rect.X0 l.a1.Rect.Y0 l.a1.Rect.X1 l.a1.Rect.Y1 l.a2.On l.a2.Session l.a2.Start l.a2.Rect.X0 l.a2.Rect.Y0 l.a2.Rect.X1 l.a2.Rect.Y1 l.a3.On l.a3.Session l.a3.Start l.a3.Rect.X0 l.a3.Rect.Y0 l.a3.Rect.X1 l.a3.Rect.Y1 l.a0.On l.a0.Session l.a0.Start l.a0.Rect.X0 l.a0.Rect.Y0 l.a0.Rect.X1 l.a0.Rect.Y1 l.a1.On l.a1.Session l.a1.Start l.a1.Rect.X0 l.a1.Rect.Y0 l.a1.Rect.X1 l.a1.Rect.Y1 l.a2.On l.a2.Session l.a2.Start l.a2.Rect.X0 l.a2.Rect.Y0 l.a2.Rect.X1 l.a2.Rect.Y1 l.a3.On l.a3.Session l.a3.Start l.a3.Rect.X0 l.a3.Rect.Y0 l.a3.Rect.X1 l.a3.Rect.Y1 = some true) :
    F11_j192 n a0 a1 a2 a3 i (x, ⟨l⟩) (x, ⟨l⟩) rec_l174 w.On w.Session w.Start w.Rect.X0 w.Rect.Y0 w.Rect.X1 w.Rect.Y1 = some true := by
  unfold F11_j192
  simp only [all_eq, sees_eq, rsees_eq, of_eq, Option.bind_some, A4_Watch.eqb_refl, hw, Watch.eqb_refl, beq_self_eq_true, Bool.not_true, Bool.false_eq_true, if_false]
  exact h

theorem plays_l174 (n : Nat) (a0 : List Step) (a1 : Point) (a2 : Int) (a3 : Rect) (hl : a0.length ≤ 60) : ∀ (m i : Nat) (l : A4 Watch), i ≤ a0.length → a0.length - i < m →
    F11_l174 n a0 a1 a2 a3 m (i : Int) l.a0.On l.a0.Session l.a0.Start l.a0.Rect.X0 l.a0.Rect.Y0 l.a0.Rect.X1 l.a0.Rect.Y1 l.a1.On l.a1.Session l.a1.Start l.a1.Rect.X0 l.a1.Rect.Y0 l.a1.Rect.X1 l.a1.Rect.Y1 l.a2.On l.a2.Session l.a2.Start l.a2.Rect.X0 l.a2.Rect.Y0 l.a2.Rect.X1 l.a2.Rect.Y1 l.a3.On l.a3.Session l.a3.Start l.a3.Rect.X0 l.a3.Rect.Y0 l.a3.Rect.X1 l.a3.Rect.Y1 l.a0.On l.a0.Session l.a0.Start l.a0.Rect.X0 l.a0.Rect.Y0 l.a0.Rect.X1 l.a0.Rect.Y1 l.a1.On l.a1.Session l.a1.Start l.a1.Rect.X0 l.a1.Rect.Y0 l.a1.Rect.X1 l.a1.Rect.Y1 l.a2.On l.a2.Session l.a2.Start l.a2.Rect.X0 l.a2.Rect.Y0 l.a2.Rect.X1 l.a2.Rect.Y1 l.a3.On l.a3.Session l.a3.Start l.a3.Rect.X0 l.a3.Rect.Y0 l.a3.Rect.X1 l.a3.Rect.Y1 = some true
  | 0, i, l, _, h => by omega
  | m + 1, i, l, h1, h2 => by
    unfold F11_l174
    by_cases hi : i < a0.length
    · rw [if_pos (lt_dec hi)]
      simp only [ixg a0 i hi, Option.bind_some]
      generalize a0[i] = s
      obtain ⟨b, hb⟩ := few_eq n s.C
      rw [hb]
      simp only [Option.bind_some]
      cases b with
      | false => rfl
      | true =>
        have hc := copy_eq n l
        have hd := do_eq n l s.C s.Beat
        have hr := rdo_eq n l s.C s.Beat
        have hz := do_eq n l (Command.mk 6 0 0 0 (Point.mk 0 0) (A4.mk (Field.mk 0 ByteArray.empty) (Field.mk 0 ByteArray.empty) (Field.mk 0 ByteArray.empty) (Field.mk 0 ByteArray.empty)) (Field.mk 0 ByteArray.empty) 0 999999 (Rect.mk 0 0 0 0)) 5
        rw [if_neg (by simp)]
        refine (congrArg (Option.bind · _) hc).trans ?_
        rw [Option.bind_some]
        refine (congrArg (Option.bind · _) hd).trans ?_
        rw [Option.bind_some]
        refine (congrArg (Option.bind · _) hr).trans ?_
        rw [Option.bind_some]
        rw [if_neg (by simp)]
        refine (congrArg (Option.bind · _) hz).trans ?_
        rw [Option.bind_some]
        have ih := plays_l174 n a0 a1 a2 a3 hl m (i + 1) (doW l s.C s.Beat).2 (by omega) (by omega)
        rw [← dsucc (show i < maxLen by simp only [maxLen]; omega)] at ih
        have J : ∀ w, ofW (doW l s.C s.Beat).2 a2 = w → _ := fun w hw => plays_j192 n a0 a1 a2 a3 (i : Int) (doW l s.C s.Beat).1 (doW l s.C s.Beat).2 w (F11_l174 n a0 a1 a2 a3 m) hw ih
        generalize (doW l s.C s.Beat).2 = l' at *
        by_cases h0 : 0 ≤ a2
        · by_cases h4 : a2 < 4
          · rw [if_pos (by simpa using h0), if_pos (by simpa using h4)]
            rw [ofW_in ⟨h0, h4⟩] at J
            obtain e | e | e | e := four h0 h4
            · rw [if_pos e]; exact J l'.a0 (by rw [e]; rfl)
            · rw [if_neg (by omega), if_pos e]; exact J l'.a1 (by rw [e]; rfl)
            · rw [if_neg (by omega), if_neg (by omega), if_pos e]; exact J l'.a2 (by rw [e]; rfl)
            · rw [if_neg (by omega), if_neg (by omega), if_neg (by omega), if_pos e]; exact J l'.a3 (by rw [e]; rfl)
          · rw [if_pos (by simpa using h0), if_neg (by simpa using h4)]
            exact J zeroW (by unfold ofW; rw [if_neg (by omega), if_pos (by omega)])
        · rw [if_neg (by simpa using h0)]
          exact J zeroW (by unfold ofW; rw [if_pos (by omega)])
    · rw [if_neg (by rw [ge_dec hi]; decide)]
      simp only [clip_eq, rclip_eq, Option.bind_some, Rect.eqb_refl]

theorem watchPlays_pure (a0 : List Step) (a1 : Point) (a2 : Int) (a3 : Rect) (_ : (∀ x ∈ a0, Step.wf x) ∧ a0.length ≤ maxLen) (_ : Point.wf a1) (_ : (Lit.int .i64 a2).wf = true) (_ : Rect.wf a3) : ∃ n, F11 n a0 a1 a2 a3 = some true := by
  refine ⟨100, ?_⟩
  unfold F11
  simp only [Option.bind_some, Bool.not_true, Bool.false_eq_true, if_false]
  by_cases g : (60 : Int) < (a0.length : Int)
  · rw [if_pos (by simpa using g)]
  rw [if_neg (by simpa using g)]
  exact plays_l174 100 a0 a1 a2 a3 (by omega) (100 + 8) 0 ⟨zeroW, zeroW, zeroW, zeroW⟩ (by omega) (by omega)

end Go.Proofs.Ytajfdeeepklfoaa
