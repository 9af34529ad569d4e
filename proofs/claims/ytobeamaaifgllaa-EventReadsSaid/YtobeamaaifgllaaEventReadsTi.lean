/-
  Reading a delta: both ways alike. No condition.
-/
import Derived.Test.YtobeamaaifgllaaEventReadsTd
import Derived.Test.YtobeamaaifgllaaEventReadsP1
namespace Go.Proofs.Ytobeamaaifgllaa
open Go Go.Rx
set_option maxRecDepth 100000
set_option linter.unusedSimpArgs false
set_option linter.unnecessarySimpa false
set_option linter.unusedVariables false
set_option maxHeartbeats 1000000

theorem hs_w (x : Int) : (bitsI .and .u8 (shrI .u8 (IntKind.wrap .u8 x) 1) 1 == 0) = !(hs (IntKind.wrap .u8 x) 1) ∧ (bitsI .and .u8 (shrI .u8 (IntKind.wrap .u8 x) 2) 1 == 0) = !(hs (IntKind.wrap .u8 x) 2) ∧ (bitsI .and .u8 (shrI .u8 (IntKind.wrap .u8 x) 3) 1 == 0) = !(hs (IntKind.wrap .u8 x) 3) ∧ (bitsI .and .u8 (shrI .u8 (IntKind.wrap .u8 x) 4) 1 == 0) = !(hs (IntKind.wrap .u8 x) 4) := by
  have := hs_not ⟨(x % 256).toNat, by omega⟩
  have e : (((x % 256).toNat : Nat) : Int) = IntKind.wrap .u8 x := by rw [wrap_u8]; omega
  simp only [e] at this
  exact this
theorem wfw (x : Int) : (Lit.int .u8 (IntKind.wrap .u8 x)).wf = true := by
  rw [wrap_u8]
  simp [Lit.wf, IntKind.min, IntKind.max, IntKind.bits, IntKind.signed]; omega

theorem step {n : Nat} {s : ByteArray} (hs' : s.size ≤ 100000) (hn : s.size ≤ n) {a : Int} (h0 : 0 ≤ a) (h1 : a ≤ (s.size : Int)) (b : Bool) (G : Int → ByteArray → ByteArray → Int → Int → Option (Delta × Int × Int)) (K : Int → Int → ByteArray → Option (Delta × Int × Int))
    (g0 : ∀ N T c, 0 ≤ c → c ≤ (s.size : Int) → G N T s c 0 = K c N T) (ge : ∀ N T c e, e ≠ 0 → G N T s c e = some (none3 e)) :
    (if b = true then (F105 n ⟨s, a, 0⟩).bind (fun r => G r.1.N r.1.Text r.2.s r.2.at_ r.2.e) else G 0 ByteArray.empty s a 0) = if (!b) = true then K a 0 ByteArray.empty else refF n s a K := by
  cases b with
  | false => simp only [Bool.false_eq_true, if_false, Bool.not_false, if_true]; exact g0 _ _ _ h0 h1
  | true =>
    obtain ⟨f, c, e, q, hq⟩ := field_eq n s hs' hn a h0 h1
    simp only [if_true, Bool.not_true, Bool.false_eq_true, if_false, q, Option.bind_some]
    rcases hq with ⟨rfl, c0, c1, hK⟩ | ⟨he, hK⟩
    · rw [hK, g0 _ _ _ c0 c1]
    · rw [hK, ge _ _ _ _ he]

section
variable {n : Nat} {s : ByteArray} {r1 r2 r4 r5 : Int × Reader} {p1 p2 : Int × Int × Int} {X Y : Int}

theorem bad {e : Int} (he : e ≠ 0) : (e != 0) = true := by simp [he]

theorem j50_e (i39 : Int) (s40 : ByteArray) (i41 : Int) (s42 : ByteArray) (i43 : Int) (s44 : ByteArray) (i45 : Int) (s46 : ByteArray) (s47 : ByteArray) (i48 e : Int) (he : e ≠ 0) : F71_j39 n r1 r2 r4 r5 ⟨s47, i48, e⟩ i39 s40 i41 s42 i43 s44 i45 s46 = some (none3 e) := by
  unfold F71_j39; rw [if_pos (bad he)]; rfl
theorem j50_0 (H1 : r1.1 = p1.1) (H2 : r2.1 = p2.1) (Hp : (r4.1 = X ∧ r5.1 = Y) ∨ (on ⟨r4.1, r5.1⟩ = false ∧ on ⟨X, Y⟩ = false)) (N0 : Int) (T0 : ByteArray) (N1 : Int) (T1 : ByteArray) (N2 : Int) (T2 : ByteArray) (N3 : Int) (T3 : ByteArray) (c : Int) :
    F71_j39 n r1 r2 r4 r5 ⟨s, c, 0⟩ N0 T0 N1 T1 N2 T2 N3 T3 = F72_u32 n p1 p2 X Y N0 T0 N1 T1 N2 T2 c N3 T3 := by
  unfold F71_j39 F72_u32
  have e00 : ((0 : Int) != 0) = false := rfl
  simp only [e00, Bool.false_eq_true, if_false, isD_eq, Option.bind_some]
  rw [risD_eq n _ (wfw p2.1)]
  simp only [Option.bind_some, H1, H2]
  rcases Hp with ⟨rfl, rfl⟩ | ⟨o1, o2⟩
  · rfl
  · have d1 : ∀ (i m : Int) (f : A4 Field), isD ⟨i, m, ⟨r4.1, r5.1⟩, f⟩ = false := fun i m f => by simp [isD, o1]
    have d2 : ∀ (i m : Int) (f : A4 Field), isD ⟨i, m, ⟨X, Y⟩, f⟩ = false := fun i m f => by simp [isD, o2]
    rw [d1, d2]; rfl

theorem u30 (hs' : s.size ≤ 100000) (hn : s.size ≤ n) (H1 : r1.1 = p1.1) (H2 : r2.1 = p2.1) (Hp : (r4.1 = X ∧ r5.1 = Y) ∨ (on ⟨r4.1, r5.1⟩ = false ∧ on ⟨X, Y⟩ = false)) (N0 : Int) (T0 : ByteArray) (N1 : Int) (T1 : ByteArray) (N2 : Int) (T2 : ByteArray) (c : Int) (c0 : 0 ≤ c) (c1 : c ≤ (s.size : Int)) :
    F71_u23 n r1 r2 r4 r5 N0 T0 N1 T1 ⟨s, c, 0⟩ N2 T2 = F72_u26 n s p1 p2 X Y N0 T0 N1 T1 c N2 T2 := by
  obtain ⟨k1, k2, k3, k4⟩ := hs_w p2.1
  unfold F71_u23 F72_u26
  have e00 : ((0 : Int) != 0) = false := rfl
  simp only [e00, Bool.false_eq_true, if_false, has3, Option.bind_some, k4, H2]
  exact step hs' hn c0 c1 _ (fun N T s c e => F71_u29 n r1 r2 r4 r5 N0 T0 N1 T1 N2 T2 ⟨s, c, e⟩ N T) (fun c N T => F72_u32 n p1 p2 X Y N0 T0 N1 T1 N2 T2 c N T) (fun N T c _ _ => j50_0 H1 H2 Hp N0 T0 N1 T1 N2 T2 N T c) (fun N T c e he => j50_e _ _ _ _ _ _ _ _ _ _ _ he)
theorem u22 (hs' : s.size ≤ 100000) (hn : s.size ≤ n) (H1 : r1.1 = p1.1) (H2 : r2.1 = p2.1) (Hp : (r4.1 = X ∧ r5.1 = Y) ∨ (on ⟨r4.1, r5.1⟩ = false ∧ on ⟨X, Y⟩ = false)) (N0 : Int) (T0 : ByteArray) (N1 : Int) (T1 : ByteArray) (c : Int) (c0 : 0 ≤ c) (c1 : c ≤ (s.size : Int)) :
    F71_u17 n r1 r2 r4 r5 N0 T0 ⟨s, c, 0⟩ N1 T1 = F72_u20 n s p1 p2 X Y N0 T0 c N1 T1 := by
  obtain ⟨k1, k2, k3, k4⟩ := hs_w p2.1
  unfold F71_u17 F72_u20
  have e00 : ((0 : Int) != 0) = false := rfl
  simp only [e00, Bool.false_eq_true, if_false, has2, Option.bind_some, k3, H2]
  refine step hs' hn c0 c1 _ (fun N T s c e => F71_u23 n r1 r2 r4 r5 N0 T0 N1 T1 ⟨s, c, e⟩ N T) (fun c N T => F72_u26 n s p1 p2 X Y N0 T0 N1 T1 c N T) (fun N T c d0 d1 => u30 hs' hn H1 H2 Hp N0 T0 N1 T1 N T c d0 d1) (fun N T c e he => ?_)
  unfold F71_u23
  rw [if_pos (bad he)]
  exact j50_e _ _ _ _ _ _ _ _ _ _ _ he
theorem u14 (hs' : s.size ≤ 100000) (hn : s.size ≤ n) (H1 : r1.1 = p1.1) (H2 : r2.1 = p2.1) (Hp : (r4.1 = X ∧ r5.1 = Y) ∨ (on ⟨r4.1, r5.1⟩ = false ∧ on ⟨X, Y⟩ = false)) (N0 : Int) (T0 : ByteArray) (c : Int) (c0 : 0 ≤ c) (c1 : c ≤ (s.size : Int)) :
    F71_u11 n r1 r2 r4 r5 ⟨s, c, 0⟩ N0 T0 = F72_u14 n s p1 p2 X Y c N0 T0 := by
  obtain ⟨k1, k2, k3, k4⟩ := hs_w p2.1
  unfold F71_u11 F72_u14
  have e00 : ((0 : Int) != 0) = false := rfl
  simp only [e00, Bool.false_eq_true, if_false, has1, Option.bind_some, k2, H2]
  refine step hs' hn c0 c1 _ (fun N T s c e => F71_u17 n r1 r2 r4 r5 N0 T0 ⟨s, c, e⟩ N T) (fun c N T => F72_u20 n s p1 p2 X Y N0 T0 c N T) (fun N T c d0 d1 => u22 hs' hn H1 H2 Hp N0 T0 N T c d0 d1) (fun N T c e he => ?_)
  unfold F71_u17
  rw [if_pos (bad he)]
  exact j50_e _ _ _ _ _ _ _ _ _ _ _ he
theorem u6 (hs' : s.size ≤ 100000) (hn : s.size ≤ n) (H1 : r1.1 = p1.1) (H2 : r2.1 = p2.1) (Hp : (r4.1 = X ∧ r5.1 = Y) ∨ (on ⟨r4.1, r5.1⟩ = false ∧ on ⟨X, Y⟩ = false)) (c : Int) (c0 : 0 ≤ c) (c1 : c ≤ (s.size : Int)) :
    (if hs (IntKind.wrap .u8 r2.1) 1 = true then (F105 n ⟨s, c, 0⟩).bind (fun r7 => F71_u11 n r1 r2 r4 r5 r7.2 r7.1.N r7.1.Text) else F71_u11 n r1 r2 r4 r5 ⟨s, c, 0⟩ 0 ByteArray.empty) = F72_j8 n s p1 p2 c X Y := by
  obtain ⟨k1, k2, k3, k4⟩ := hs_w p2.1
  unfold F72_j8
  simp only [k1, H2]
  refine step hs' hn c0 c1 _ (fun N T s c e => F71_u11 n r1 r2 r4 r5 ⟨s, c, e⟩ N T) (fun c N T => F72_u14 n s p1 p2 X Y c N T) (fun N T c d0 d1 => u14 hs' hn H1 H2 Hp N T c d0 d1) (fun N T c e he => ?_)
  unfold F71_u11
  rw [if_pos (bad he)]
  exact j50_e _ _ _ _ _ _ _ _ _ _ _ he

/-! ### without a place -/

theorem j95_e (i39 : Int) (s40 : ByteArray) (i41 : Int) (s42 : ByteArray) (i43 : Int) (s44 : ByteArray) (i45 : Int) (s46 : ByteArray) (s47 : ByteArray) (i48 e : Int) (he : e ≠ 0) : F71_j74 n r1 r2 ⟨s47, i48, e⟩ i39 s40 i41 s42 i43 s44 i45 s46 = some (none3 e) := by
  unfold F71_j74; rw [if_pos (bad he)]; rfl
theorem j95_0 (H1 : r1.1 = p1.1) (H2 : r2.1 = p2.1) (N0 : Int) (T0 : ByteArray) (N1 : Int) (T1 : ByteArray) (N2 : Int) (T2 : ByteArray) (N3 : Int) (T3 : ByteArray) (c : Int) :
    F71_j74 n r1 r2 ⟨s, c, 0⟩ N0 T0 N1 T1 N2 T2 N3 T3 = F72_u32 n p1 p2 0 0 N0 T0 N1 T1 N2 T2 c N3 T3 := by
  unfold F71_j74 F72_u32
  have e00 : ((0 : Int) != 0) = false := rfl
  simp only [e00, Bool.false_eq_true, if_false, isD_eq, Option.bind_some]
  rw [risD_eq n _ (wfw p2.1)]
  simp only [Option.bind_some, H1, H2]
theorem u75 (hs' : s.size ≤ 100000) (hn : s.size ≤ n) (H1 : r1.1 = p1.1) (H2 : r2.1 = p2.1) (N0 : Int) (T0 : ByteArray) (N1 : Int) (T1 : ByteArray) (N2 : Int) (T2 : ByteArray) (c : Int) (c0 : 0 ≤ c) (c1 : c ≤ (s.size : Int)) :
    F71_u58 n r1 r2 N0 T0 N1 T1 ⟨s, c, 0⟩ N2 T2 = F72_u26 n s p1 p2 0 0 N0 T0 N1 T1 c N2 T2 := by
  obtain ⟨k1, k2, k3, k4⟩ := hs_w p2.1
  unfold F71_u58 F72_u26
  have e00 : ((0 : Int) != 0) = false := rfl
  simp only [e00, Bool.false_eq_true, if_false, has3, Option.bind_some, k4, H2]
  exact step hs' hn c0 c1 _ (fun N T s c e => F71_u64 n r1 r2 N0 T0 N1 T1 N2 T2 ⟨s, c, e⟩ N T) (fun c N T => F72_u32 n p1 p2 0 0 N0 T0 N1 T1 N2 T2 c N T) (fun N T c _ _ => j95_0 H1 H2 N0 T0 N1 T1 N2 T2 N T c) (fun N T c e he => j95_e _ _ _ _ _ _ _ _ _ _ _ he)
theorem u67 (hs' : s.size ≤ 100000) (hn : s.size ≤ n) (H1 : r1.1 = p1.1) (H2 : r2.1 = p2.1) (N0 : Int) (T0 : ByteArray) (N1 : Int) (T1 : ByteArray) (c : Int) (c0 : 0 ≤ c) (c1 : c ≤ (s.size : Int)) :
    F71_u52 n r1 r2 N0 T0 ⟨s, c, 0⟩ N1 T1 = F72_u20 n s p1 p2 0 0 N0 T0 c N1 T1 := by
  obtain ⟨k1, k2, k3, k4⟩ := hs_w p2.1
  unfold F71_u52 F72_u20
  have e00 : ((0 : Int) != 0) = false := rfl
  simp only [e00, Bool.false_eq_true, if_false, has2, Option.bind_some, k3, H2]
  refine step hs' hn c0 c1 _ (fun N T s c e => F71_u58 n r1 r2 N0 T0 N1 T1 ⟨s, c, e⟩ N T) (fun c N T => F72_u26 n s p1 p2 0 0 N0 T0 N1 T1 c N T) (fun N T c d0 d1 => u75 hs' hn H1 H2 N0 T0 N1 T1 N T c d0 d1) (fun N T c e he => ?_)
  unfold F71_u58
  rw [if_pos (bad he)]
  exact j95_e _ _ _ _ _ _ _ _ _ _ _ he
theorem u59 (hs' : s.size ≤ 100000) (hn : s.size ≤ n) (H1 : r1.1 = p1.1) (H2 : r2.1 = p2.1) (N0 : Int) (T0 : ByteArray) (c : Int) (c0 : 0 ≤ c) (c1 : c ≤ (s.size : Int)) :
    F71_u46 n r1 r2 ⟨s, c, 0⟩ N0 T0 = F72_u14 n s p1 p2 0 0 c N0 T0 := by
  obtain ⟨k1, k2, k3, k4⟩ := hs_w p2.1
  unfold F71_u46 F72_u14
  have e00 : ((0 : Int) != 0) = false := rfl
  simp only [e00, Bool.false_eq_true, if_false, has1, Option.bind_some, k2, H2]
  refine step hs' hn c0 c1 _ (fun N T s c e => F71_u52 n r1 r2 N0 T0 ⟨s, c, e⟩ N T) (fun c N T => F72_u20 n s p1 p2 0 0 N0 T0 c N T) (fun N T c d0 d1 => u67 hs' hn H1 H2 N0 T0 N T c d0 d1) (fun N T c e he => ?_)
  unfold F71_u52
  rw [if_pos (bad he)]
  exact j95_e _ _ _ _ _ _ _ _ _ _ _ he
theorem u52 (hs' : s.size ≤ 100000) (hn : s.size ≤ n) (H1 : r1.1 = p1.1) (H2 : r2.1 = p2.1) (c : Int) (c0 : 0 ≤ c) (c1 : c ≤ (s.size : Int)) :
    (if hs (IntKind.wrap .u8 r2.1) 1 = true then (F105 n ⟨s, c, 0⟩).bind (fun r7 => F71_u46 n r1 r2 r7.2 r7.1.N r7.1.Text) else F71_u46 n r1 r2 ⟨s, c, 0⟩ 0 ByteArray.empty) = F72_j8 n s p1 p2 c 0 0 := by
  obtain ⟨k1, k2, k3, k4⟩ := hs_w p2.1
  unfold F72_j8
  simp only [k1, H2]
  refine step hs' hn c0 c1 _ (fun N T s c e => F71_u46 n r1 r2 ⟨s, c, e⟩ N T) (fun c N T => F72_u14 n s p1 p2 0 0 c N T) (fun N T c d0 d1 => u59 hs' hn H1 H2 N T c d0 d1) (fun N T c e he => ?_)
  unfold F71_u46
  rw [if_pos (bad he)]
  exact j95_e _ _ _ _ _ _ _ _ _ _ _ he
end

/-! ### numbers -/

theorem num_stop (n : Nat) (s : ByteArray) (a e : Int) (he : e ≠ 0) : F104 n ⟨s, a, e⟩ = some (0, ⟨s, a, e⟩) := by
  unfold F104
  simp only [bad he, if_true]
theorem num_eq (n : Nat) (s : ByteArray) (hs' : s.size ≤ 100000) (hn : s.size ≤ n) (a : Int) (h0 : 0 ≤ a) (h1 : a ≤ (s.size : Int)) :
    ∃ u b e, 0 ≤ u ∧ ((e = 0 ∧ 0 ≤ b ∧ b ≤ (s.size : Int) ∧ F104 n ⟨s, a, 0⟩ = some (imin u 1000001, ⟨s, b, 0⟩) ∧ ∀ d, 0 ≤ d → d ≤ 2000000 → F106 n s a d = some (if d < u then d + 1 else u, b, 0)) ∨
      (e ≠ 0 ∧ F104 n ⟨s, a, 0⟩ = some (0, ⟨s, a, e⟩) ∧ ∀ d, F106 n s a d = some (0, a, e))) := by
  have z1 := ext_size s a h0 h1
  obtain ⟨r, q1, q2, q3⟩ := get_eq n (s.extract a.toNat s.size) (by omega) (by omega)
  have hc : 0 ≤ a ∧ a ≤ (s.size : Int) := ⟨h0, h1⟩
  have e00 : ((0 : Int) != 0) = false := rfl
  unfold F104 F116 F106
  simp only [e00, Bool.false_eq_true, if_false, if_pos hc, q1, q2, Option.bind_some]
  rcases q3 with ⟨e0, k1, k2, u0, u1⟩ | ⟨e0, t0, k0⟩
  · have w1 : IntKind.wrap .i64 (a + r.2.1) = a + r.2.1 := w64 (by omega) (by omega)
    have wi : IntKind.wrap .i64 (imin r.1 1000001) = imin r.1 1000001 := by unfold imin; split <;> exact w64 (by omega) (by omega)
    have hb : (r.2.2 != 0) = false := by simp [e0]
    refine ⟨r.1, a + r.2.1, 0, u0, .inl ⟨rfl, by omega, by omega, by rw [w1, wi, e0], fun d d0 d1 => ?_⟩⟩
    simp only [hb, Bool.false_eq_true, if_false]
    by_cases c : d < r.1
    · have wd : IntKind.wrap .i64 d = d := w64 (by omega) (by omega)
      have wd' : IntKind.wrap .i64 (d + 1) = d + 1 := w64 (by omega) (by omega)
      simp only [c, decide_true, if_true, w1, wd, wd']
    · have wu : IntKind.wrap .i64 r.1 = r.1 := w64 (by omega) (by omega)
      simp only [c, decide_false, Bool.false_eq_true, if_false, w1, wu]
  · have hb : (r.2.2 != 0) = true := by simp [e0]
    have w1 : IntKind.wrap .i64 (a + r.2.1) = a := by rw [k0, w64 (by omega) (by omega)]; omega
    have wi : IntKind.wrap .i64 (imin r.1 1000001) = 0 := by rw [t0]; rfl
    exact ⟨0, a, r.2.2, by omega, .inr ⟨e0, by rw [w1, wi], fun d => by simp only [hb, if_true]⟩⟩

theorem j3_e (n : Nat) (s : ByteArray) (r1 : Int × Reader) (a e : Int) (he : e ≠ 0) : F71_j3 n r1 (0, ⟨s, a, e⟩) = some (none3 e) := by
  unfold F71_j3
  have hb : (bitsI .and .u8 (IntKind.wrap .u8 0) 1 != 0) = false := rfl
  simp only [hb, Bool.false_eq_true, if_false, bad he, if_true]
  exact j95_e _ _ _ _ _ _ _ _ _ _ _ he
theorem imin_big {u : Int} (h : 0 ≤ u) : imin u 1000001 = if 1000000 < u then 1000001 else u := by unfold imin; split <;> split <;> omega
theorem off {x y : Int} (h : 64 ≤ x ∨ 64 ≤ y) : on ⟨x, y⟩ = false := by
  unfold on
  by_cases h1 : 0 ≤ x <;> by_cases h2 : x < 64 <;> by_cases h3 : 0 ≤ y <;> simp [h1, h2, h3] <;> omega
/-- What was read lies within the bytes. -/
def RdR (s : ByteArray) (r : Delta × Int × Int) : Prop := r.2.2 = 0 → (0 ≤ r.2.1 ∧ r.2.1 ≤ (s.size : Int)) ∧ isD r.1 = true
theorem RdR.bad {s : ByteArray} {e : Int} (h : e ≠ 0) : RdR s (none3 e) := fun h0 => absurd h0 h
theorem refF_ex {n : Nat} {s : ByteArray} (hs' : s.size ≤ 100000) (hn : s.size ≤ n) {a : Int} (h0 : 0 ≤ a) (h1 : a ≤ (s.size : Int)) (K : Int → Int → ByteArray → Option (Delta × Int × Int)) (hK : ∀ N T c, 0 ≤ c → c ≤ (s.size : Int) → ∃ r, K c N T = some r ∧ RdR s r) : ∃ r, refF n s a K = some r ∧ RdR s r := by
  obtain ⟨f, c, e, _, hq⟩ := field_eq n s hs' hn a h0 h1
  rcases hq with ⟨_, c0, c1, h⟩ | ⟨hb, h⟩
  · rw [h]; exact hK _ _ _ c0 c1
  · rw [h]; exact ⟨_, rfl, RdR.bad hb⟩
theorem x32 {s : ByteArray} (n : Nat) (p1 p2 : Int × Int × Int) (X Y N0 : Int) (T0 : ByteArray) (N1 : Int) (T1 : ByteArray) (N2 : Int) (T2 : ByteArray) (c N3 : Int) (T3 : ByteArray) (c0 : 0 ≤ c) (c1 : c ≤ (s.size : Int)) : ∃ r, F72_u32 n p1 p2 X Y N0 T0 N1 T1 N2 T2 c N3 T3 = some r ∧ RdR s r := by
  unfold F72_u32
  rw [risD_eq n _ (wfw p2.1)]
  simp only [Option.bind_some]
  split
  · exact ⟨_, rfl, RdR.bad (by decide)⟩
  · rename_i hd
    exact ⟨_, rfl, fun _ => ⟨⟨c0, c1⟩, by simpa using hd⟩⟩
theorem x26 {n : Nat} {s : ByteArray} (hs' : s.size ≤ 100000) (hn : s.size ≤ n) (p1 p2 : Int × Int × Int) (X Y N0 : Int) (T0 : ByteArray) (N1 : Int) (T1 : ByteArray) (c N2 : Int) (T2 : ByteArray) (c0 : 0 ≤ c) (c1 : c ≤ (s.size : Int)) : ∃ r, F72_u26 n s p1 p2 X Y N0 T0 N1 T1 c N2 T2 = some r ∧ RdR s r := by
  unfold F72_u26
  split
  · exact x32 _ _ _ _ _ _ _ _ _ _ _ _ _ _ c0 c1
  · exact refF_ex hs' hn c0 c1 (fun c N T => F72_u32 n p1 p2 X Y N0 T0 N1 T1 N2 T2 c N T) (fun N T c d0 d1 => x32 _ _ _ _ _ _ _ _ _ _ _ _ _ _ d0 d1)
theorem x20 {n : Nat} {s : ByteArray} (hs' : s.size ≤ 100000) (hn : s.size ≤ n) (p1 p2 : Int × Int × Int) (X Y N0 : Int) (T0 : ByteArray) (c N1 : Int) (T1 : ByteArray) (c0 : 0 ≤ c) (c1 : c ≤ (s.size : Int)) : ∃ r, F72_u20 n s p1 p2 X Y N0 T0 c N1 T1 = some r ∧ RdR s r := by
  unfold F72_u20
  split
  · exact x26 hs' hn _ _ _ _ _ _ _ _ _ _ _ c0 c1
  · exact refF_ex hs' hn c0 c1 (fun c N T => F72_u26 n s p1 p2 X Y N0 T0 N1 T1 c N T) (fun N T c d0 d1 => x26 hs' hn _ _ _ _ _ _ _ _ _ _ _ d0 d1)
theorem x14 {n : Nat} {s : ByteArray} (hs' : s.size ≤ 100000) (hn : s.size ≤ n) (p1 p2 : Int × Int × Int) (X Y c N0 : Int) (T0 : ByteArray) (c0 : 0 ≤ c) (c1 : c ≤ (s.size : Int)) : ∃ r, F72_u14 n s p1 p2 X Y c N0 T0 = some r ∧ RdR s r := by
  unfold F72_u14
  split
  · exact x20 hs' hn _ _ _ _ _ _ _ _ _ c0 c1
  · exact refF_ex hs' hn c0 c1 (fun c N T => F72_u20 n s p1 p2 X Y N0 T0 c N T) (fun N T c d0 d1 => x20 hs' hn _ _ _ _ _ _ _ _ _ d0 d1)
theorem x8 {n : Nat} {s : ByteArray} (hs' : s.size ≤ 100000) (hn : s.size ≤ n) (p1 p2 : Int × Int × Int) (X Y c : Int) (c0 : 0 ≤ c) (c1 : c ≤ (s.size : Int)) : ∃ r, F72_j8 n s p1 p2 c X Y = some r ∧ RdR s r := by
  unfold F72_j8
  split
  · exact x14 hs' hn _ _ _ _ _ _ _ c0 c1
  · exact refF_ex hs' hn c0 c1 (fun c N T => F72_u14 n s p1 p2 X Y c N T) (fun N T c d0 d1 => x14 hs' hn _ _ _ _ _ _ _ d0 d1)
theorem rread_ex (n : Nat) (s : ByteArray) (hs' : s.size ≤ 100000) (hn : s.size ≤ n) : ∃ r, F72 n s = some r ∧ RdR s r := by
  obtain ⟨u1, b1, e1, hu1, H1⟩ := num_eq n s hs' hn 0 (by omega) (by omega)
  unfold F72
  rcases H1 with ⟨rfl, p0, p1, q, rq⟩ | ⟨he, q, rq⟩
  · obtain ⟨u2, b2, e2, hu2, H2⟩ := num_eq n s hs' hn b1 p0 p1
    rw [rq 1000000 (by omega) (by omega)]
    generalize (if (1000000 : Int) < u1 then 1000000 + 1 else u1) = v1
    simp only [Option.bind_some, bne_self_eq_false, Bool.false_eq_true, if_false]
    rcases H2 with ⟨rfl, c0, c1, k, rk⟩ | ⟨he, k, rk⟩
    · obtain ⟨u3, b3, e3, hu3, H3⟩ := num_eq n s hs' hn b2 c0 c1
      rw [rk 31 (by omega) (by omega)]
      generalize (if (31 : Int) < u2 then 31 + 1 else u2) = v2
      simp only [Option.bind_some, bne_self_eq_false, Bool.false_eq_true, if_false]
      split
      · exact ⟨_, rfl, RdR.bad (by decide)⟩
      · split
        · exact ⟨_, rfl, RdR.bad (by decide)⟩
        · split
          · exact ⟨_, rfl, RdR.bad (by decide)⟩
          · split
            · rcases H3 with ⟨rfl, d0, d1, l, rl⟩ | ⟨he, l, rl⟩
              · obtain ⟨u4, b4, e4, hu4, H4⟩ := num_eq n s hs' hn b3 d0 d1
                rw [rl 1048576 (by omega) (by omega)]
                simp only [Option.bind_some, bne_self_eq_false, Bool.false_eq_true, if_false]
                rcases H4 with ⟨rfl, f0, f1, m, rm⟩ | ⟨he, m, rm⟩
                · rw [rm 1048576 (by omega) (by omega)]
                  simp only [Option.bind_some, bne_self_eq_false, Bool.false_eq_true, if_false]
                  exact x8 hs' hn _ _ _ _ _ f0 f1
                · rw [rm]
                  simp only [Option.bind_some, bad he, if_true]
                  exact ⟨_, rfl, RdR.bad he⟩
              · rw [rl]
                simp only [Option.bind_some, bad he, if_true]
                exact ⟨_, rfl, RdR.bad he⟩
            · exact x8 hs' hn _ _ _ _ _ c0 c1
    · rw [rk]
      simp only [Option.bind_some, bad he, if_true]
      exact ⟨_, rfl, RdR.bad he⟩
  · rw [rq]
    simp only [Option.bind_some, bad he, if_true]
    exact ⟨_, rfl, RdR.bad he⟩
theorem read_eq (n : Nat) (s : ByteArray) (hs' : s.size ≤ 100000) (hn : s.size ≤ n) : ∃ r, F71 n s = some r ∧ F72 n s = some r ∧ RdR s r := by
  have same : F71 n s = F72 n s := by
    obtain ⟨u1, b1, e1, hu1, H1⟩ := num_eq n s hs' hn 0 (by omega) (by omega)
    unfold F71 F72
    rcases H1 with ⟨rfl, p0, p1, q, rq⟩ | ⟨he, q, rq⟩
    · obtain ⟨u2, b2, e2, hu2, H2⟩ := num_eq n s hs' hn b1 p0 p1
      rw [q, rq 1000000 (by omega) (by omega)]
      simp only [Option.bind_some, bne_self_eq_false, Bool.false_eq_true, if_false]
      rcases H2 with ⟨rfl, c0, c1, k, rk⟩ | ⟨he, k, rk⟩
      · rw [k, rk 31 (by omega) (by omega)]
        simp only [Option.bind_some, bne_self_eq_false, Bool.false_eq_true, if_false, beq_self_eq_true, if_true]
        have i1 := imin_big hu1
        have i2 := imin_big hu2
        have e1' : (if 1000000 < u1 then (1000000 : Int) + 1 else u1) = imin u1 1000001 := by rw [i1]; rfl
        rw [e1']
        by_cases hid : 1000000 < imin u1 1000001
        · simp only [hid, decide_true, if_true]
        · simp only [hid, decide_false, Bool.false_eq_true, if_false]
          by_cases hz : u2 = 0
          · subst hz
            have m0 : (imin 0 1000001 == 0) = true := rfl
            simp only [m0, if_true]
            rfl
          · by_cases hb : 31 < u2
            · have m0 : (imin u2 1000001 == 0) = false := by rw [i2]; split <;> (simp; try omega)
              have m1 : decide ((31 : Int) < imin u2 1000001) = true := by rw [i2]; split <;> (simp; try omega)
              simp only [m0, m1, Bool.false_eq_true, if_false, if_true, if_pos hb]
              rfl
            · have em : imin u2 1000001 = u2 := by rw [i2, if_neg (by omega)]
              have m0 : (u2 == 0) = false := by simp [hz]
              have m1 : decide ((31 : Int) < u2) = false := by simp; omega
              have m2 : decide (u2 < 1) = false := by simp; omega
              simp only [em, m0, m1, m2, Bool.false_eq_true, if_false, if_neg hb]
              unfold F71_j3
              simp only
              cases hA : (bitsI .and .u8 (IntKind.wrap .u8 u2) 1 != 0) with
              | true =>
                obtain ⟨u3, b3, e3, hu3, H3⟩ := num_eq n s hs' hn b2 c0 c1
                simp only [if_true]
                rcases H3 with ⟨rfl, d0, d1, l, rl⟩ | ⟨he, l, rl⟩
                · obtain ⟨u4, b4, e4, hu4, H4⟩ := num_eq n s hs' hn b3 d0 d1
                  rw [l, rl 1048576 (by omega) (by omega)]
                  simp only [Option.bind_some, bne_self_eq_false, Bool.false_eq_true, if_false]
                  rcases H4 with ⟨rfl, f0, f1, m, rm⟩ | ⟨he, m, rm⟩
                  · rw [m, rm 1048576 (by omega) (by omega)]
                    simp only [Option.bind_some, bne_self_eq_false, Bool.false_eq_true, if_false, has0]
                    refine u6 (n := n) (s := s) (r1 := (imin u1 1000001, ⟨s, b1, 0⟩)) (r2 := (u2, ⟨s, b2, 0⟩)) (r4 := (imin u3 1000001, ⟨s, b3, 0⟩)) (r5 := (imin u4 1000001, ⟨s, b4, 0⟩)) (p1 := (imin u1 1000001, b1, 0)) (p2 := (u2, b2, 0)) (X := if 1048576 < u3 then 1048576 + 1 else u3) (Y := if 1048576 < u4 then 1048576 + 1 else u4) hs' hn rfl rfl ?_ b4 f0 f1
                    by_cases hx : u3 ≤ 1000001
                    · by_cases hy : u4 ≤ 1000001
                      · refine .inl ⟨?_, ?_⟩
                        · simp only [imin_big hu3]; split <;> split <;> omega
                        · simp only [imin_big hu4]; split <;> split <;> omega
                      · refine .inr ⟨off (.inr ?_), off (.inr ?_)⟩
                        · simp only [imin_big hu4]; split <;> omega
                        · split <;> omega
                    · refine .inr ⟨off (.inl ?_), off (.inl ?_)⟩
                      · simp only [imin_big hu3]; split <;> omega
                      · split <;> omega
                  · rw [m, rm]
                    simp only [Option.bind_some, bad he, if_true]
                    exact j50_e _ _ _ _ _ _ _ _ _ _ _ he
                · rw [l, rl]
                  simp only [Option.bind_some, num_stop n s b2 e3 he, bad he, if_true]
                  exact j50_e _ _ _ _ _ _ _ _ _ _ _ he
              | false =>
                simp only [Bool.false_eq_true, if_false, bne_self_eq_false, has0, Option.bind_some]
                exact u52 (n := n) (s := s) (r1 := (imin u1 1000001, ⟨s, b1, 0⟩)) (r2 := (u2, ⟨s, b2, 0⟩)) (p1 := (imin u1 1000001, b1, 0)) (p2 := (u2, b2, 0)) hs' hn rfl rfl b2 c0 c1
      · rw [k, rk]
        have hb : (e2 == 0) = false := by simp [he]
        simp only [Option.bind_some, hb, Bool.false_eq_true, if_false, bad he, if_true]
        exact j3_e n s _ b1 e2 he
    · rw [q, rq]
      simp only [Option.bind_some, num_stop n s 0 e1 he]
      have hb : (e1 == 0) = false := by simp [he]
      simp only [hb, Bool.false_eq_true, if_false, bad he, if_true]
      exact j3_e n s _ 0 e1 he
  obtain ⟨r, hr, hb⟩ := rread_ex n s hs' hn
  exact ⟨r, by rw [same, hr], hr, hb⟩
end Go.Proofs.Ytobeamaaifgllaa
