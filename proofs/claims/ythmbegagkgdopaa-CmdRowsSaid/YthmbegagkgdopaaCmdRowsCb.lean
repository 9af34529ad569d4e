/-
  Commands: what was written is read. No condition.
-/
import Derived.Test.YthmbegagkgdopaaCmdRowsCd
import Derived.Test.YthmbegagkgdopaaCmdRowsP2
namespace Go.Proofs.Ythmbegagkgdopaa
open Go Go.Rx
set_option maxRecDepth 100000
set_option maxHeartbeats 1000000
set_option linter.unusedSimpArgs false
set_option linter.unnecessarySimpa false
set_option linter.unusedVariables false

theorem nn : ((0 : Int) == 0) = true := rfl
theorem field_back {n : Nat} (hn : 10 ≤ n) {s P : ByteArray} (hs : s.size ≤ 100000) {f : Field} (hf : isF f = true) (hr : I64 f.N) (h : Pre s (P ++ fl f)) (K : Field → Int → Int → Option (Command × Int × Int)) (N : Int → Int → Option (Command × Int × Int)) :
    (if 0 ≤ (P.size : Int) ∧ (P.size : Int) ≤ (s.size : Int) then
      (F67 n (s.extract (P.size : Int).toNat s.size) 12).bind fun (r39 : (ByteArray × Int × Int)) =>
      if r39.2.2 == 0 then
        (F64s0 n s (IntKind.wrap .i64 ((P.size : Int) + r39.2.1))).bind fun (r40 : (Int × Int × Int)) => K (Field.mk r40.1 r39.1) r40.2.1 r40.2.2
      else N r39.2.2 (IntKind.wrap .i64 ((P.size : Int) + r39.2.1))
      else none) = K f 0 ((P ++ fl f).size : Int) := by
  have h2 : Pre s (P ++ tx f.Text ++ zg f.N) := by rw [ba_assoc]; exact h
  have h1 := h2.of
  have hp := h1.of.size
  obtain ⟨a, b⟩ := text_back hn hs h1 (isF_text hf)
  rw [if_pos ⟨by omega, by omega⟩, a, Option.bind_some, if_pos nn, b, num_back hn hs h2 hr, Option.bind_some]
  rw [show P ++ fl f = P ++ tx f.Text ++ zg f.N by rw [ba_assoc]; rfl]
theorem j47_back {n : Nat} (hn : 10 ≤ n) {s : ByteArray} {g : Command} (hc : isC g = true) (h : Pre s (byC g)) : F40_j47 n s g ((byC g).size : Int) = some (g, ((byC g).size : Int), 0) := by
  have hp := h.size
  have hx : s.extract 0 (byC g).size = byC g := by
    obtain ⟨R, e⟩ := h
    have := ext_mid ByteArray.empty (byC g) R
    rw [ba_nil, ← e] at this
    simpa using this
  unfold F40_j47
  rw [bytes_is hn hc, Option.bind_some, if_neg nz, if_pos ⟨by omega, by omega⟩, Int.toNat_natCast, hx]
  simp only [beq_self_eq_true, Bool.not_true, Bool.false_eq_true, if_false]
theorem j38_back {n : Nat} (hn : 10 ≤ n) {s P : ByteArray} (hs : s.size ≤ 100000) (g : Command) {f : Field} (hf : isF f = true) (hr : I64 f.N) (h : Pre s (P ++ fl f)) : F40_j38 n s g 0 (P.size : Int) = F40_j44 n s (Command.mk g.Kind g.ID g.Which g.To g.At (A4.mk g.F.a0 g.F.a1 g.F.a2 f) g.Value g.Client g.Session g.Rect) 0 ((P ++ fl f).size : Int) := by
  unfold F40_j38
  rw [if_neg nz]
  exact field_back hn hs hf hr h (fun f e a => F40_j44 n s (Command.mk g.Kind g.ID g.Which g.To g.At (A4.mk g.F.a0 g.F.a1 g.F.a2 f) g.Value g.Client g.Session g.Rect) e a) (fun e a => F40_j44 n s g e a)
theorem j32_back {n : Nat} (hn : 10 ≤ n) {s P : ByteArray} (hs : s.size ≤ 100000) (g : Command) {f : Field} (hf : isF f = true) (hr : I64 f.N) (h : Pre s (P ++ fl f)) : F40_j32 n s g 0 (P.size : Int) = F40_j38 n s (Command.mk g.Kind g.ID g.Which g.To g.At (A4.mk g.F.a0 g.F.a1 f g.F.a3) g.Value g.Client g.Session g.Rect) 0 ((P ++ fl f).size : Int) := by
  unfold F40_j32
  rw [if_neg nz]
  exact field_back hn hs hf hr h (fun f e a => F40_j38 n s (Command.mk g.Kind g.ID g.Which g.To g.At (A4.mk g.F.a0 g.F.a1 f g.F.a3) g.Value g.Client g.Session g.Rect) e a) (fun e a => F40_j38 n s g e a)
theorem j26_back {n : Nat} (hn : 10 ≤ n) {s P : ByteArray} (hs : s.size ≤ 100000) (g : Command) {f : Field} (hf : isF f = true) (hr : I64 f.N) (h : Pre s (P ++ fl f)) : F40_j26 n s g 0 (P.size : Int) = F40_j32 n s (Command.mk g.Kind g.ID g.Which g.To g.At (A4.mk g.F.a0 f g.F.a2 g.F.a3) g.Value g.Client g.Session g.Rect) 0 ((P ++ fl f).size : Int) := by
  unfold F40_j26
  rw [if_neg nz]
  exact field_back hn hs hf hr h (fun f e a => F40_j32 n s (Command.mk g.Kind g.ID g.Which g.To g.At (A4.mk g.F.a0 f g.F.a2 g.F.a3) g.Value g.Client g.Session g.Rect) e a) (fun e a => F40_j32 n s g e a)
theorem j13_back1 {n : Nat} (hn : 10 ≤ n) {s P : ByteArray} (hs : s.size ≤ 100000) (g : Command) (hk : g.Kind = 1) {f : Field} (hf : isF f = true) (hr : I64 f.N) (h : Pre s (P ++ fl f)) : F40_j13 n s g 0 (P.size : Int) = F40_j26 n s (Command.mk g.Kind g.ID g.Which g.To g.At (A4.mk f g.F.a1 g.F.a2 g.F.a3) g.Value g.Client g.Session g.Rect) 0 ((P ++ fl f).size : Int) := by
  unfold F40_j13
  rw [if_neg nz, values_eq, Option.bind_some, if_pos hk, if_neg (by decide), if_pos rfl]
  exact field_back hn hs hf hr h (fun f e a => F40_j26 n s (Command.mk g.Kind g.ID g.Which g.To g.At (A4.mk f g.F.a1 g.F.a2 g.F.a3) g.Value g.Client g.Session g.Rect) e a) (fun e a => F40_j26 n s g e a)
theorem j13_back3 {n : Nat} (hn : 10 ≤ n) {s P : ByteArray} (hs : s.size ≤ 100000) (g : Command) (hk : g.Kind = 3) {f : Field} (hf : isF f = true) (hr : I64 f.N) (h : Pre s (P ++ fl f)) : F40_j13 n s g 0 (P.size : Int) = F40_j20 n s (Command.mk g.Kind g.ID g.Which g.To g.At g.F f g.Client g.Session g.Rect) 0 ((P ++ fl f).size : Int) := by
  unfold F40_j13
  have v3 : (if g.Kind = 1 then 1 else if g.Kind = 3 then 2 else 0) = 2 := by simp [hk]
  rw [if_neg nz, values_eq, Option.bind_some, v3, if_neg (by decide), if_neg (by decide), if_pos rfl]
  exact field_back hn hs hf hr h (fun f e a => F40_j20 n s (Command.mk g.Kind g.ID g.Which g.To g.At g.F f g.Client g.Session g.Rect) e a) (fun e a => F40_j20 n s g e a)
theorem j13_back0 {n : Nat} {s : ByteArray} (g : Command) (h1 : g.Kind ≠ 1) (h3 : g.Kind ≠ 3) (i : Int) : F40_j13 n s g 0 i = F40_j47 n s g i := by
  unfold F40_j13
  rw [if_neg nz, values_eq, Option.bind_some, if_neg h1, if_neg h3, if_pos rfl]
theorem j20_back {n : Nat} {s : ByteArray} (g : Command) (i : Int) : F40_j20 n s g 0 i = F40_j47 n s g i := by
  unfold F40_j20; rw [if_neg nz]
theorem j44_back {n : Nat} {s : ByteArray} (g : Command) (i : Int) : F40_j44 n s g 0 i = F40_j47 n s g i := by
  unfold F40_j44; rw [if_neg nz]

theorem kind_all {c : Command} : coreC c = Command.mk c.Kind (if c.Kind = 2 ∨ c.Kind = 3 ∨ c.Kind = 4 then c.ID else 0) (if c.Kind = 3 ∨ c.Kind = 5 then c.Which else 0) (if c.Kind = 5 then c.To else 0) (if c.Kind = 1 ∨ c.Kind = 2 then c.At else Point.mk 0 0) (if c.Kind = 1 then c.F else zF) (if c.Kind = 3 then c.Value else Field.mk 0 ByteArray.empty) c.Client c.Session (if c.Kind = 6 ∨ c.Kind = 7 then c.Rect else Rect.mk 0 0 0 0) := by
  unfold coreC F58 zF
  by_cases h1 : c.Kind = 1
  · simp [h1]
  by_cases h2 : c.Kind = 2
  · simp [h2]
  by_cases h3 : c.Kind = 3
  · simp [h3]
  by_cases h4 : c.Kind = 4
  · simp [h4]
  by_cases h5 : c.Kind = 5
  · simp [h5]
  by_cases h6 : c.Kind = 6
  · simp [h6]
  by_cases h7 : c.Kind = 7
  · simp [h7]
  simp [h1, h2, h3, h4, h5, h6, h7]

theorem read_back {n : Nat} (hn : 10 ≤ n) {s : ByteArray} (hs : s.size ≤ 100000) {c : Command} (hc : isC c = true) (hr : NR c) (h : Pre s (byC c)) : F40 n s = some (c, ((byC c).size : Int), 0) := by
  have H := isC_in hc
  have hcore := H.core.trans kind_all
  have last := j47_back hn hc h
  have b1 := H.kind
  have b2 := H.client
  have b3 := H.sess
  have b4 := H.id
  have b5 := H.which
  have b6 := H.to
  have b7 := H.atx
  have b8 := H.aty
  have b9 := H.x0
  have b10 := H.y0
  have b11 := H.x1
  have b12 := H.y1
  unfold F40
  obtain ⟨nl, hnl⟩ : ∃ l, nums c = l := ⟨_, rfl⟩
  obtain ⟨vl, hvl⟩ : ∃ l, vals c = l := ⟨_, rfl⟩
  have hP : Pre s (addV (addN (hdC c) nl) vl) := by rw [← hnl, ← hvl]; exact h
  have hby : byC c = addV (addN (hdC c) nl) vl := by rw [← hnl, ← hvl]; rfl
  have vof : ∀ (l : List Field) (P : ByteArray), Pre s (addV P l) → Pre s P := by
    intro l
    induction l with
    | nil => intro P hp; exact hp
    | cons f l ih => intro P hp; exact (ih (P ++ fl f) hp).of
  have nof : ∀ (l : List Int) (P : ByteArray), Pre s (addN P l) → Pre s P := by
    intro l
    induction l with
    | nil => intro P hp; exact hp
    | cons f l ih => intro P hp; exact (ih (P ++ zg f) hp).of
  have hN : Pre s (addN (hdC c) nl) := vof _ _ hP
  have h0 : Pre s (ByteArray.empty ++ zg c.Kind ++ zg c.Client ++ zg c.Session) := by rw [ba_nil]; exact nof _ _ hN
  have w0 := whole0_back hn hs zC h0 (by omega) (by omega) (by omega)
  refine Eq.subst (motive := fun x => Option.bind x _ = _) w0.symm ?_
  rw [Option.bind_some, if_neg nz, parts_eq, Option.bind_some]
  have e0 : ByteArray.empty ++ zg c.Kind ++ zg c.Client ++ zg c.Session = hdC c := by rw [ba_nil]; rfl
  rw [e0]
  simp only
  obtain e | e | e | e | e | e | e | e := kinds H
  · have six : (if c.Kind = 1 then 1 else if c.Kind = 2 then 2 else if c.Kind = 3 then 3 else if c.Kind = 4 then 4 else if c.Kind = 5 then 5 else if c.Kind = 6 ∨ c.Kind = 7 then 6 else 0) = 1 := by simp [e]
    rw [six]
    have en : nl = [c.At.X, c.At.Y] := by rw [← hnl]; unfold nums; simp [e]
    rw [en] at hN hP hby
    have ev : vl = [c.F.a0, c.F.a1, c.F.a2, c.F.a3] := by rw [← hvl]; unfold vals; simp [e]
    rw [ev] at hP hby
    rw [if_neg (by decide), if_pos rfl]
    rw [whole6_back hn hs _ hN (by omega) (by omega), Option.bind_some]
    simp only
    have p3 : Pre s (hdC c ++ zg c.At.X ++ zg c.At.Y ++ fl c.F.a0 ++ fl c.F.a1 ++ fl c.F.a2 ++ fl c.F.a3) := hP
    have p2 := p3.of
    have p1 := p2.of
    have p0 := p1.of
    rw [j13_back1 hn hs (Command.mk c.Kind zC.ID zC.Which zC.To (Point.mk c.At.X c.At.Y) zC.F zC.Value c.Client c.Session zC.Rect) e H.f0 hr.n0 p0, j26_back hn hs _ H.f1 hr.n1 p1, j32_back hn hs _ H.f2 hr.n2 p2, j38_back hn hs _ H.f3 hr.n3 p3, j44_back]
    rw [hby] at last ⊢
    refine Eq.trans (congrArg (fun g => F40_j47 n s g _) ?_) last
    refine Eq.trans ?_ hcore.symm
    simp [e, zC, zF]
  · have six : (if c.Kind = 1 then 1 else if c.Kind = 2 then 2 else if c.Kind = 3 then 3 else if c.Kind = 4 then 4 else if c.Kind = 5 then 5 else if c.Kind = 6 ∨ c.Kind = 7 then 6 else 0) = 2 := by simp [e]
    rw [six]
    have en : nl = [c.ID, c.At.X, c.At.Y] := by rw [← hnl]; unfold nums; simp [e]
    rw [en] at hN hP hby
    have ev : vl = [] := by rw [← hvl]; unfold vals; simp [e]
    rw [ev] at hP hby
    rw [if_neg (by decide), if_neg (by decide), if_pos rfl]
    rw [whole5_back hn hs _ hN (by omega) (by omega) (by omega), Option.bind_some]
    simp only
    rw [j13_back0 _ (by simp only [e]; decide) (by simp only [e]; decide)]
    rw [hby] at last ⊢
    refine Eq.trans (congrArg (fun g => F40_j47 n s g _) ?_) last
    refine Eq.trans ?_ hcore.symm
    simp [e, zC, zF]
  · have six : (if c.Kind = 1 then 1 else if c.Kind = 2 then 2 else if c.Kind = 3 then 3 else if c.Kind = 4 then 4 else if c.Kind = 5 then 5 else if c.Kind = 6 ∨ c.Kind = 7 then 6 else 0) = 3 := by simp [e]
    rw [six]
    have en : nl = [c.ID, c.Which] := by rw [← hnl]; unfold nums; simp [e]
    rw [en] at hN hP hby
    have ev : vl = [c.Value] := by rw [← hvl]; unfold vals; simp [e]
    rw [ev] at hP hby
    rw [if_neg (by decide), if_neg (by decide), if_neg (by decide), if_pos rfl]
    rw [whole4_back hn hs _ hN (by omega) (by omega), Option.bind_some]
    simp only
    have p0 : Pre s (hdC c ++ zg c.ID ++ zg c.Which ++ fl c.Value) := hP
    rw [j13_back3 hn hs (Command.mk c.Kind c.ID c.Which zC.To zC.At zC.F zC.Value c.Client c.Session zC.Rect) e H.v hr.v p0, j20_back]
    rw [hby] at last ⊢
    refine Eq.trans (congrArg (fun g => F40_j47 n s g _) ?_) last
    refine Eq.trans ?_ hcore.symm
    simp [e, zC, zF]
  · have six : (if c.Kind = 1 then 1 else if c.Kind = 2 then 2 else if c.Kind = 3 then 3 else if c.Kind = 4 then 4 else if c.Kind = 5 then 5 else if c.Kind = 6 ∨ c.Kind = 7 then 6 else 0) = 4 := by simp [e]
    rw [six]
    have en : nl = [c.ID] := by rw [← hnl]; unfold nums; simp [e]
    rw [en] at hN hP hby
    have ev : vl = [] := by rw [← hvl]; unfold vals; simp [e]
    rw [ev] at hP hby
    rw [if_neg (by decide), if_neg (by decide), if_neg (by decide), if_neg (by decide), if_pos rfl]
    rw [whole3_back hn hs _ hN (by omega), Option.bind_some]
    simp only
    rw [j13_back0 _ (by simp only [e]; decide) (by simp only [e]; decide)]
    rw [hby] at last ⊢
    refine Eq.trans (congrArg (fun g => F40_j47 n s g _) ?_) last
    refine Eq.trans ?_ hcore.symm
    simp [e, zC, zF]
  · have six : (if c.Kind = 1 then 1 else if c.Kind = 2 then 2 else if c.Kind = 3 then 3 else if c.Kind = 4 then 4 else if c.Kind = 5 then 5 else if c.Kind = 6 ∨ c.Kind = 7 then 6 else 0) = 5 := by simp [e]
    rw [six]
    have en : nl = [c.Which, c.To] := by rw [← hnl]; unfold nums; simp [e]
    rw [en] at hN hP hby
    have ev : vl = [] := by rw [← hvl]; unfold vals; simp [e]
    rw [ev] at hP hby
    rw [if_neg (by decide), if_neg (by decide), if_neg (by decide), if_neg (by decide), if_neg (by decide), if_pos rfl]
    rw [whole2_back hn hs _ hN (by omega) (by omega), Option.bind_some]
    simp only
    rw [j13_back0 _ (by simp only [e]; decide) (by simp only [e]; decide)]
    rw [hby] at last ⊢
    refine Eq.trans (congrArg (fun g => F40_j47 n s g _) ?_) last
    refine Eq.trans ?_ hcore.symm
    simp [e, zC, zF]
  · have six : (if c.Kind = 1 then 1 else if c.Kind = 2 then 2 else if c.Kind = 3 then 3 else if c.Kind = 4 then 4 else if c.Kind = 5 then 5 else if c.Kind = 6 ∨ c.Kind = 7 then 6 else 0) = 6 := by simp [e]
    rw [six]
    have en : nl = [c.Rect.X0, c.Rect.Y0, c.Rect.X1, c.Rect.Y1] := by rw [← hnl]; unfold nums; simp [e]
    rw [en] at hN hP hby
    have ev : vl = [] := by rw [← hvl]; unfold vals; simp [e]
    rw [ev] at hP hby
    rw [if_neg (by decide), if_neg (by decide), if_neg (by decide), if_neg (by decide), if_neg (by decide), if_neg (by decide), if_pos rfl]
    rw [whole1_back hn hs _ hN (by omega) (by omega) (by omega) (by omega), Option.bind_some]
    simp only
    rw [j13_back0 _ (by simp only [e]; decide) (by simp only [e]; decide)]
    rw [hby] at last ⊢
    refine Eq.trans (congrArg (fun g => F40_j47 n s g _) ?_) last
    refine Eq.trans ?_ hcore.symm
    simp [e, zC, zF]
  · have six : (if c.Kind = 1 then 1 else if c.Kind = 2 then 2 else if c.Kind = 3 then 3 else if c.Kind = 4 then 4 else if c.Kind = 5 then 5 else if c.Kind = 6 ∨ c.Kind = 7 then 6 else 0) = 6 := by simp [e]
    rw [six]
    have en : nl = [c.Rect.X0, c.Rect.Y0, c.Rect.X1, c.Rect.Y1] := by rw [← hnl]; unfold nums; simp [e]
    rw [en] at hN hP hby
    have ev : vl = [] := by rw [← hvl]; unfold vals; simp [e]
    rw [ev] at hP hby
    rw [if_neg (by decide), if_neg (by decide), if_neg (by decide), if_neg (by decide), if_neg (by decide), if_neg (by decide), if_pos rfl]
    rw [whole1_back hn hs _ hN (by omega) (by omega) (by omega) (by omega), Option.bind_some]
    simp only
    rw [j13_back0 _ (by simp only [e]; decide) (by simp only [e]; decide)]
    rw [hby] at last ⊢
    refine Eq.trans (congrArg (fun g => F40_j47 n s g _) ?_) last
    refine Eq.trans ?_ hcore.symm
    simp [e, zC, zF]
  · have six : (if c.Kind = 1 then 1 else if c.Kind = 2 then 2 else if c.Kind = 3 then 3 else if c.Kind = 4 then 4 else if c.Kind = 5 then 5 else if c.Kind = 6 ∨ c.Kind = 7 then 6 else 0) = 0 := by simp [e]
    rw [six, if_pos rfl, whole7_is, Option.bind_some]
    have en : nl = [] := by rw [← hnl]; unfold nums; simp [e]
    have ev : vl = [] := by rw [← hvl]; unfold vals; simp [e]
    rw [en, ev] at hby
    rw [j13_back0 _ (by simp only [e]; decide) (by simp only [e]; decide)]
    rw [hby] at last ⊢
    refine Eq.trans (congrArg (fun g => F40_j47 n s g _) ?_) last
    refine Eq.trans ?_ hcore.symm
    simp [e, zC, zF]
end Go.Proofs.Ythmbegagkgdopaa
