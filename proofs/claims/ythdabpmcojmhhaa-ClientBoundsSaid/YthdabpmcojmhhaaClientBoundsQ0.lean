/- No condition. -/
import Derived.Test.YthdabpmcojmhhaaClientBoundsV
import Derived.Test.YthdabpmcojmhhaaClientBoundsP0
namespace Go.Proofs.Ythdabpmcojmhhaa
open Go Go.Rx
set_option maxRecDepth 100000
set_option linter.unusedVariables false
set_option linter.unusedSimpArgs false
set_option linter.unnecessarySimpa false
set_option linter.unnecessarySimpa false
theorem Point.eqb_iff (x y : Point) : Point.eqb x y = true ↔ x = y := by
 cases x; cases y; simp [Point.eqb]
theorem Field.eqb_iff (x y : Field) : Field.eqb x y = true ↔ x = y := by
 cases x; cases y; simp [Field.eqb, ba_beq]
theorem A4_Field.eqb_iff (x y : A4 Field) : A4_Field.eqb x y = true ↔ x = y := by
 cases x; cases y; simp [A4_Field.eqb, Field.eqb_iff]
theorem Thing.eqb_iff (x y : Thing) : Thing.eqb x y = true ↔ x = y := by
 cases x; cases y; simp [Thing.eqb, Point.eqb_iff, A4_Field.eqb_iff]
theorem Delta.eqb_iff (x y : Delta) : Delta.eqb x y = true ↔ x = y := by
 cases x; cases y; simp [Delta.eqb, Point.eqb_iff, A4_Field.eqb_iff]
theorem Thing.eqb_refl (x : Thing) : Thing.eqb x x = true := (Thing.eqb_iff x x).2 rfl
def noP : Point := ⟨0, 0⟩
def noF : Field := ⟨0, ByteArray.empty⟩
def hs (m i : Int) : Bool := bitsI .and .u8 (shrI .u8 m i) 1 == 1
theorem fin_u8 {m : Int} (h : (Lit.int .u8 m).wf = true) : ∃ k : Fin 256, m = (k.val : Int) := by
 have := bounds_u8 h
 exact ⟨⟨m.toNat, by omega⟩, by simp; omega⟩
def isF (f : Field) : Bool := if f.N == 0 then decide ((f.Text.size : Int) ≤ 12) else if f.Text.toList == ByteArray.empty.toList then decide ((f.Text.size : Int) ≤ 12) else false
theorem isF_eq (n : Nat) (f : Field) : F62 n f = some (isF f) := by
 unfold F62 isF
 split
 ·rfl
 ·split <;> rfl
def okF (f : Field) (e : Bool) : Bool := isF f && (e || Field.eqb f noF)
def on (p : Point) : Bool := if decide ((0 : Int) ≤ p.X) then if decide (p.X < 64) then if decide ((0 : Int) ≤ p.Y) then decide (p.Y < 64) else false else false else false
def a1 (d : Delta) : Bool := (bitsI .and .u8 d.Mask 1) != 0
def fl4 (d : Delta) : Bool := okF d.F.a0 (hs d.Mask 1) && (okF d.F.a1 (hs d.Mask 2) && (okF d.F.a2 (hs d.Mask 3) && okF d.F.a3 (hs d.Mask 4)))
def isD (d : Delta) : Bool := !(decide (d.ID < 0)) && (!(decide ((1000000 : Int) < d.ID)) && (!(d.Mask == 0) && (!(decide ((31 : Int) < d.Mask)) && ((a1 d || Point.eqb d.At noP) && (on d.At && fl4 d)))))
theorem ixg {α : Type} (l : List α) (i : Nat) (h : i < l.length) : ix l (i : Int) = some l[i] := by
 simp [ix, h]
theorem dsucc {i : Nat} (h : i < maxLen) : IntKind.wrap .i64 ((i : Int) + 1) = ((i + 1 : Nat) : Int) := by
 simp only [maxLen] at h
 simp [IntKind.wrap, IntKind.bits, IntKind.signed]; omega
theorem lt_dec {i n : Nat} (h : i < n) : decide ((i : Int) < (n : Int)) = true := by simp; omega
theorem ge_dec {i n : Nat} (h : ¬ i < n) : decide ((i : Int) < (n : Int)) = false := by simp; omega
def isTh (t : Thing) : Bool := decide (0 ≤ t.ID) && (decide (t.ID ≤ 1000000) && (on t.At && (isF t.F.a0 && (isF t.F.a1 && (isF t.F.a2 && isF t.F.a3)))))
theorem Rect.eqb_iff (x y : Rect) : Rect.eqb x y = true ↔ x = y := by
 cases x; cases y; simp [Rect.eqb, and_assoc]
theorem Command.eqb_iff (x y : Command) : Command.eqb x y = true ↔ x = y := by
 cases x; cases y; simp [Command.eqb, Point.eqb_iff, A4_Field.eqb_iff, Field.eqb_iff, Rect.eqb_iff]
theorem Command.eqb_refl (x : Command) : Command.eqb x x = true := (Command.eqb_iff x x).2 rfl
def near (x : Int) : Bool := decide (-1000 ≤ x) && decide (x ≤ 1000)
theorem near_l (n : Nat) (l : List Int) (hl : l.length ≤ 8) : ∀ (m i : Nat), i ≤ l.length → l.length - i < m → F64_l4 n l m (i : Int) = some ((l.drop i).all near)
 | 0, i, _, h => by omega
 | m + 1, i, h1, h2 => by
  unfold F64_l4
  by_cases hi : i < l.length
  ·have ed : l.drop i = l[i] :: l.drop (i + 1) := by rw [List.drop_eq_getElem_cons hi]
   have ea : (l.drop i).all near = (near l[i] && (l.drop (i + 1)).all near) := by rw [ed, List.all_cons]
   simp only [lt_dec hi, if_true, ixg l i hi, Option.bind_some, dsucc (show i < maxLen by simp only [maxLen]; omega), ea, near_l n l hl m (i + 1) (by omega) (by omega)]
   generalize l[i] = x
   unfold near
   by_cases h3 : (-1000 : Int) ≤ x <;> by_cases h4 : x ≤ 1000 <;> simp [h3, h4]
  ·have ed : l.drop i = [] := List.drop_eq_nil_of_le (by omega)
   simp only [ge_dec hi, Bool.false_eq_true, if_false, ed, List.all_nil]
theorem near_eq (n : Nat) (l : List Int) (hl : l.length ≤ 7) : F64 n l = some (l.all near) := by
 unfold F64
 have := near_l n l (by omega) (n + 8) 0 (by omega) (by omega)
 simpa using this
def coreC (c : Command) : Command := (F63 0 c).getD c
theorem core_eq (n : Nat) (c : Command) : F63 n c = some (coreC c) := by
 have h : ∀ m, F63 m c = F63 0 c := fun m => rfl
 rw [h n]
 unfold coreC
 have : (F63 0 c).isSome := by
  unfold F63
  repeat (split <;> try rfl)
 obtain ⟨r, hr⟩ := Option.isSome_iff_exists.1 this
 rw [hr]; rfl
def boundsC (c : Command) : Bool := (decide (0 ≤ c.Client) && (decide (c.Client < 4) && (decide (0 ≤ c.Session) && decide (c.Session ≤ 1000000)))) &&
 ((decide (0 ≤ c.ID) && (decide (c.ID ≤ 1000000) && (decide (-1 ≤ c.Which) && (decide (c.Which ≤ 100) && (decide (-1 ≤ c.To) && (decide (c.To ≤ 100) && isF c.Value)))))) &&
  [c.At.X, c.At.Y, c.Rect.X0, c.Rect.Y0, c.Rect.X1, c.Rect.Y1].all near)
def isC (c : Command) : Bool := (isF c.F.a0 && (isF c.F.a1 && (isF c.F.a2 && isF c.F.a3))) && ((decide (1 ≤ c.Kind) && (decide (c.Kind ≤ 8) && Command.eqb c (coreC c))) && boundsC c)
theorem isC_eq (n : Nat) (c : Command) : F51 n c = some (isC c) := by
 have j12 : ∀ x y z, F51_j12 n c x y z = some (x && (y && (z && [c.At.X, c.At.Y, c.Rect.X0, c.Rect.Y0, c.Rect.X1, c.Rect.Y1].all near))) := by
  intro x y z
  unfold F51_j12
  rw [near_eq n _ (by simp)]
  cases x <;> cases y <;> cases z <;> simp
 have j9 : ∀ x y, F51_j9 n c x y = some (x && (y && ((decide (0 ≤ c.ID) && (decide (c.ID ≤ 1000000) && (decide (-1 ≤ c.Which) && (decide (c.Which ≤ 100) && (decide (-1 ≤ c.To) && (decide (c.To ≤ 100) && isF c.Value)))))) && [c.At.X, c.At.Y, c.Rect.X0, c.Rect.Y0, c.Rect.X1, c.Rect.Y1].all near))) := by
  intro x y
  unfold F51_j9
  simp only [j12, isF_eq, Option.bind_some]
  by_cases h1 : (0 : Int) ≤ c.ID
  ·by_cases h2 : c.ID ≤ 1000000
   ·by_cases h3 : (-1 : Int) ≤ c.Which
    ·by_cases h4 : c.Which ≤ 100
     ·by_cases h5 : (-1 : Int) ≤ c.To
      ·by_cases h6 : c.To ≤ 100 <;> simp only [h1, h2, h3, h4, h5, h6, decide_true, decide_false, if_true, Bool.false_eq_true, if_false, Bool.true_and, Bool.false_and, Bool.and_false]
      ·simp only [h1, h2, h3, h4, h5, decide_true, decide_false, if_true, Bool.false_eq_true, if_false, Bool.true_and, Bool.false_and, Bool.and_false]
     ·simp only [h1, h2, h3, h4, decide_true, decide_false, if_true, Bool.false_eq_true, if_false, Bool.true_and, Bool.false_and, Bool.and_false]
    ·simp only [h1, h2, h3, decide_true, decide_false, if_true, Bool.false_eq_true, if_false, Bool.true_and, Bool.false_and, Bool.and_false]
   ·simp only [h1, h2, decide_true, decide_false, if_true, Bool.false_eq_true, if_false, Bool.true_and, Bool.false_and, Bool.and_false]
  ·simp only [h1, decide_true, decide_false, if_true, Bool.false_eq_true, if_false, Bool.true_and, Bool.false_and, Bool.and_false]
 have j7 : ∀ x, F51_j7 n c x = some (x && boundsC c) := by
  intro x
  unfold F51_j7 boundsC
  simp only [j9]
  by_cases h1 : (0 : Int) ≤ c.Client
  ·by_cases h2 : c.Client < 4
   ·by_cases h3 : (0 : Int) ≤ c.Session <;> simp only [h1, h2, h3, decide_true, decide_false, if_true, Bool.false_eq_true, if_false, Bool.true_and, Bool.false_and, Bool.and_false]
   ·simp only [h1, h2, decide_true, decide_false, if_true, Bool.false_eq_true, if_false, Bool.true_and, Bool.false_and, Bool.and_false]
  ·simp only [h1, decide_true, decide_false, if_true, Bool.false_eq_true, if_false, Bool.true_and, Bool.false_and, Bool.and_false]
 unfold F51 isC
 simp only [isF_eq, Option.bind_some, core_eq, j7]
 cases isF c.F.a0
 ·rfl
 ·cases isF c.F.a1
  ·rfl
  ·cases isF c.F.a2
   ·rfl
   ·cases isF c.F.a3
    ·rfl
    ·by_cases h1 : (1 : Int) ≤ c.Kind
     ·by_cases h2 : c.Kind ≤ 8 <;> simp [h1, h2]
     ·simp [h1]
def vals (c : Command) : List Field :=
 if c.Kind = 1 then [c.F.a0, c.F.a1, c.F.a2, c.F.a3] else if c.Kind = 3 then [c.Value] else []
def noT : Thing := ⟨0, ⟨0, 0⟩, ⟨noF, noF, noF, noF⟩⟩
def noD : Delta := ⟨0, 0, ⟨0, 0⟩, ⟨noF, noF, noF, noF⟩⟩
theorem Event.eqb_iff (x y : Event) : Event.eqb x y = true ↔ x = y := by
 cases x; cases y; simp [Event.eqb, Thing.eqb_iff, Delta.eqb_iff]
theorem Event.eqb_refl (x : Event) : Event.eqb x x = true := (Event.eqb_iff x x).2 rfl
theorem Delta.eqb_refl (x : Delta) : Delta.eqb x x = true := (Delta.eqb_iff x x).2 rfl
def isEv (e : Event) : Bool :=
 if e.Kind == 1 then isTh e.Thing && (e.ID == e.Thing.ID && Delta.eqb e.Delta noD)
 else if e.Kind == 2 then isD e.Delta && (e.ID == e.Delta.ID && Thing.eqb e.Thing noT)
 else if e.Kind == 3 then decide (0 ≤ e.ID) && (decide (e.ID ≤ 1000000) && (Thing.eqb e.Thing noT && Delta.eqb e.Delta noD))
 else false
def app (t : Thing) (d : Delta) : Thing := ⟨t.ID, if a1 d then d.At else t.At, ⟨if hs d.Mask 1 then d.F.a0 else t.F.a0, if hs d.Mask 2 then d.F.a1 else t.F.a1, if hs d.Mask 3 then d.F.a2 else t.F.a2, if hs d.Mask 4 then d.F.a3 else t.F.a3⟩⟩
def Ris (l : List Thing) : Prop := l.Pairwise fun a b => a.ID < b.ID
def lo (l : List Thing) (x : Int) : List Thing := l.takeWhile fun t => decide (t.ID < x)
def hi (l : List Thing) (x : Int) : List Thing := l.dropWhile fun t => decide (t.ID < x)
def has (b : List Thing) (x : Int) : Bool := match b with
 | [] => false
 | t :: _ => t.ID == x
def stp (l : List Thing) (e : Event) : List Thing × Bool :=
 if isEv e = false then (l, false)
 else if has (hi l e.ID) e.ID == (e.Kind == 1) then (l, false)
 else if e.Kind == 1 then (lo l e.ID ++ e.Thing :: hi l e.ID, true)
 else if e.Kind == 2 then (lo l e.ID ++ (match hi l e.ID with | [] => [] | u :: b => app u e.Delta :: b), true)
 else (lo l e.ID ++ (hi l e.ID).tail, true)
def fld (l0 : List Thing) : List Thing → List Event → List Thing × Bool
 | l, [] => (l, true)
 | l, e :: es => if (stp l e).2 then fld l0 (stp l e).1 es else (l0, false)
abbrev RV := View_vedetteref19
def hasW (s b : Int) : List Frame → Bool
 | [] => false
 | f :: w => if s = f.From ∧ b = f.Beat then true else hasW s b w
def Uniq : List Frame → Prop
 | [] => True
 | f :: w => hasW f.From f.Beat w = false ∧ Uniq w
def maxI : Int := 9223372036854775807
structure Fok (k : Nat) (beat start : Int) (f : Frame) : Prop where
 lt : beat < f.Beat
 st : start ≤ f.Beat
 hi : f.Beat ≤ maxI
 f0 : 0 ≤ f.From
 f1 : f.From < k
 ev : f.Events.length ≤ 20
 ms : ∀ e ∈ f.Events, (Lit.int .u8 e.Delta.Mask).wf = true
structure Good (k c : Nat) (beat start : Int) (L : List Thing) (G : List Event) (W : List Frame) : Prop where
 k0 : 1 ≤ k
 k1 : k ≤ 4
 c1 : c ≤ 50
 bs : beat = -1 ∨ start ≤ beat
 s0 : 0 ≤ start
 bh : beat ≤ maxI
 uq : Uniq W
 fs : ∀ f ∈ W, Fok k beat start f
 rs : Ris L
 ll : L.length + 20 * W.length ≤ 20 * c
 gl : G.length + 20 * W.length ≤ 20 * c
theorem wrap_id {x : Int} (h0 : -9223372036854775808 ≤ x) (h1 : x ≤ 9223372036854775807) : IntKind.wrap .i64 x = x := by
 simp [IntKind.wrap, IntKind.bits, IntKind.signed]; omega
structure FD (f : Frame) : Prop where
 hi : f.Beat ≤ 9223372036854775807
 lo : -9223372036854775808 ≤ f.Beat
 ev : f.Events.length ≤ 20
 ms : ∀ e ∈ f.Events, (Lit.int .u8 e.Delta.Mask).wf = true
structure RI (k c : Nat) (r : RV) : Prop where
 n : r.N = (k : Int)
 g : (r.Start = -1 ∧ r.Beat = -1 ∧ r.Wait = [] ∧ r.L = [] ∧ r.Log = [] ∧ 1 ≤ k ∧ k ≤ 4 ∧ c ≤ 50) ∨ Good k c r.Beat r.Start r.L r.Log r.Wait
theorem RI.k0 {k c : Nat} {r : RV} (h : RI k c r) : 1 ≤ k ∧ k ≤ 4 ∧ c ≤ 50 := by
 rcases h.g with g | g
 ·exact g.2.2.2.2.2
 ·exact ⟨g.k0, g.k1, g.c1⟩
theorem RI.bt {k c : Nat} {r : RV} (h : RI k c r) : -1 ≤ r.Beat ∧ (r.Start = -1 ∨ 0 ≤ r.Start) := by
 rcases h.g with g | g
 ·exact ⟨by rw [g.2.1]; decide, .inl g.1⟩
 ·have := g.s0; rcases g.bs with h | h <;> exact ⟨by omega, .inr g.s0⟩
theorem RI.ll {k c : Nat} {r : RV} (h : RI k c r) : r.L.length ≤ 1000 ∧ r.Log.length ≤ 1000 := by
 rcases h.g with g | g
 ·rw [g.2.2.2.1, g.2.2.2.2.1]; simp
 ·have := g.ll; have := g.gl; have := g.c1; omega
theorem int_wf {x : Int} (h : (Lit.int .i64 x).wf = true) : -9223372036854775808 ≤ x ∧ x < 9223372036854775808 := by
 simp [Lit.wf, IntKind.min, IntKind.max, IntKind.bits, IntKind.signed] at h; omega
theorem FD.of {f : Frame} (h : Frame.wf f) (he : f.Events.length ≤ 20) : FD f := by
 obtain ⟨_, _, _, _, h1, h2, _⟩ := h
 have := int_wf h1
 exact ⟨by omega, by omega, he, fun e he => (h2 e he).2.2.2.2.1⟩
def prE (Ev : Int → Int → List Event) (b : Int) : Nat → Nat → List Thing → List Event → List Thing × List Event
 | 0, _, L, G => (L, G)
 | k + 1, s, L, G => prE Ev b k (s + 1) (if (fld L L (Ev s b)).2 then (fld L L (Ev s b)).1 else L) (if (fld L L (Ev s b)).2 then G ++ Ev s b else G)
def can (Ev : Int → Int → List Event) (k : Nat) (st : Int) : Nat → List Thing × List Event
 | 0 => ([], [])
 | d + 1 => prE Ev (st + d) k 0 (can Ev k st d).1 (can Ev k st d).2
def btOf (st : Int) (d : Nat) : Int := if d = 0 then -1 else st + d - 1
structure Wt (Ev : Int → Int → List Event) (T : Int → Int → Prop) (k : Nat) (st : Int) (c d : Nat) (beat : Int) (L : List Thing) (G : List Event) (W : List Frame) : Prop where
 bt : beat = btOf st d
 cn : (L, G) = can Ev k st d
 hs : ∀ s b : Int, hasW s b W = true ↔ (T s b ∧ st + d ≤ b)
 ev : ∀ f ∈ W, f.Events = Ev f.From f.Beat
 tk : ∀ s b : Int, 0 ≤ s → s < (k : Int) → st ≤ b → b < st + d → T s b
 ln : W.length + k * d = c
structure Cn (Ev : Int → Int → List Event) (T : Int → Int → Prop) (k : Nat) (st : Int) (c d : Nat) (r : RV) : Prop where
 ri : RI k c r
 w : Wt Ev T k st c d r.Beat r.L r.Log r.Wait
 so : r.Start = -1 ∨ r.Start = st
 no : ∃ s : Nat, s < k ∧ ¬ T s (st + d)
theorem Cn.ll {Ev : Int → Int → List Event} {T : Int → Int → Prop} {k : Nat} {st : Int} {c d : Nat} {r : RV} (h : Cn Ev T k st c d r) : r.L = (can Ev k st d).1 ∧ r.Log = (can Ev k st d).2 ∧ r.Wait.length + k * d = c ∧ r.Beat = btOf st d :=
 ⟨congrArg Prod.fst h.w.cn, congrArg Prod.snd h.w.cn, h.w.ln, h.w.bt⟩
theorem u8_bd {a : Int} (h : (Lit.int .u8 a).wf = true) : 0 ≤ a ∧ a < 256 := by
 obtain ⟨k, rfl⟩ := fin_u8 h
 have := k.isLt
 omega
theorem tmod_u {a : Int} (h0 : 0 ≤ a) (m : Nat) : Int.tmod a (m : Int) = ((a.toNat % m : Nat) : Int) := by
 rw [Int.tmod_eq_emod_of_nonneg h0, Int.natCast_emod, Int.toNat_of_nonneg h0]
theorem clampk {k : Nat} (h0 : 1 ≤ k) (h1 : k ≤ 4) : imin (imax (k : Int) 1) 4 = (k : Int) := by
 unfold imin imax
 split <;> split <;> omega
theorem RI.start {k c : Nat} {r : RV} (h : RI k c r) (hb : r.Beat ≠ -1) : r.Start ≠ -1 := by
 rcases h.g with g | g
 ·exact absurd g.2.1 hb
 ·have := g.s0; omega
def noC : Command := ⟨0, 0, 0, 0, ⟨0, 0⟩, ⟨⟨0, ByteArray.empty⟩, ⟨0, ByteArray.empty⟩, ⟨0, ByteArray.empty⟩, ⟨0, ByteArray.empty⟩⟩, ⟨0, ByteArray.empty⟩, 0, 0, ⟨0, 0, 0, 0⟩⟩
def noNt : Note := ⟨0, 0, [], [], [], []⟩
def noFr : Frame := ⟨0, 0, 0, 0, 0, []⟩
def nPk : Packet := ⟨0, 0, 0, 0, noC, 0, 0, noNt, noFr, 0, 0⟩
def newC (id k s : Int) : Client := ⟨id, k, s, ⟨id, s, k, -1, -1, [], [], []⟩, nPk, false, 0, 0, 0⟩
theorem newC_eq (n : Nat) (a0 a1 : Int) (k : Nat) (k0 : 1 ≤ k) (k1 : k ≤ 4) (hk : imin (imax a1 1) 4 = (k : Int)) : F27 n a0 a1 = some (newC (imin (imax a0 0) 3) k 1) := by
 unfold F27 F38s0 F13
 simp only [Option.bind_some, hk, clampk k0 k1]
 rfl
def inC (id s : Int) (x : Command) : Command := ⟨x.Kind, x.ID, x.Which, x.To, x.At, x.F, x.Value, id, s, x.Rect⟩
def pkC (id s seq to : Int) (x : Command) : Packet := ⟨IntKind.wrap .i64 (100 + id), to, 1, seq, inC id s x, 0, 0, noNt, noFr, s, 0⟩
def askS (c : Client) (to : Int) (x : Command) : Packet × Int × Client :=
 if c.busy = true then (nPk, 28, c) else if to < 0 then (nPk, 19, c) else if c.n ≤ to then (nPk, 19, c) else if isC (inC c.id_ c.session x) = true then
  (pkC c.id_ c.session (IntKind.wrap .i64 (c.seq + 1)) to x, 0, ⟨c.id_, c.n, c.session, c.v, pkC c.id_ c.session (IntKind.wrap .i64 (c.seq + 1)) to x, true, IntKind.wrap .i64 (c.seq + 1), c.thing, c.e⟩) else (nPk, 11, c)
theorem ask_eq (n : Nat) (c : Client) (to : Int) (x : Command) : F28 n c to x = some (askS c to x) := by
 unfold F28 askS
 simp only [isC_eq, Option.bind_some, decide_eq_true_eq]
 by_cases h1 : c.busy = true
 ·rw [if_pos h1, if_pos h1]; rfl
 rw [if_neg h1, if_neg h1]
 by_cases h2 : to < 0
 ·rw [if_pos h2, if_pos h2]; rfl
 rw [if_neg h2, if_neg h2]
 by_cases h3 : c.n ≤ to
 ·rw [if_pos h3, if_pos h3]; rfl
 rw [if_neg h3, if_neg h3]
 show (if (!(isC (inC c.id_ c.session x))) = true then _ else _) = _
 cases isC (inC c.id_ c.session x) <;> rfl
def ack (id s b : Int) (i : Nat) : Packet := ⟨IntKind.wrap .i64 (100 + id), (i : Int), 5, 0, noC, 0, 0, noNt, noFr, s, b⟩
def acks (id s b : Int) : Nat → Nat → List Packet
 | 0, _ => []
 | j + 1, i => ack id s b i :: acks id s b j (i + 1)
def pulseS (id s b : Int) (k : Nat) (busy : Bool) (p : Packet) : List Packet := (if busy = true then [p] else []) ++ (if b < 0 then [] else acks id s b k 0)
theorem pulse_l (n : Nat) (c : Client) (k : Nat) (k1 : k ≤ 4) (hk : c.n = (k : Int)) : ∀ (m i : Nat) (l : List Packet), i ≤ k → k - i < m → l.length ≤ 1 + i →
  F30_l31 n c m l (i : Int) c.v.client c.v.session c.v.n c.v.beat c.v.start c.v.things c.v.log_ c.v.wait = some (l ++ (if c.v.beat < 0 then [] else acks c.id_ c.session c.v.beat (k - i) i), c)
 | 0, i, l, _, h, _ => by omega
 | m + 1, i, l, hi, h, hl => by
  unfold F30_l31 F17
  simp only [Option.bind_some, decide_eq_true_eq, hk]
  by_cases hlt : i < k
  ·rw [if_pos (show (i : Int) < (k : Int) by omega)]
   by_cases hb : c.v.beat < 0
   ·rw [if_pos hb, if_pos hb, List.append_nil, ← hk]
   ·rw [if_neg hb, if_neg hb, if_pos ⟨by simp only [maxCells]; omega, by simp only [maxCells]; omega⟩, dsucc (show i < maxLen by simp only [maxLen]; omega)]
    have hr := pulse_l n c k k1 hk m (i + 1) (l ++ [ack c.id_ c.session c.v.beat i]) (by omega) (by omega) (by simp; omega)
    rw [if_neg hb] at hr
    refine hr.trans ?_
    obtain ⟨j, hj⟩ : ∃ j, k - i = j + 1 := ⟨k - i - 1, by omega⟩
    rw [hj, show k - (i + 1) = j by omega, List.append_assoc]
    rfl
  ·rw [if_neg (show ¬ (i : Int) < (k : Int) by omega), show k - i = 0 by omega, ← hk]
   simp [acks]
theorem pulse_l' (n : Nat) (c : Client) : ∀ (m : Nat) (l : List Packet) (i : Int) (a b d e f : Int) (g : List Thing) (h : List Event) (w : List (Key × List Event)),
  F30_l64 n c m l i a b d e f g h w = F30_l31 n c m l i a b d e f g h w
 | 0, _, _, _, _, _, _, _, _, _, _ => rfl
 | m + 1, l, i, a, b, d, e, f, g, h, w => by
  unfold F30_l64 F30_l31
  simp only [pulse_l' n c m]
theorem pulse_eq {n : Nat} (c : Client) (k : Nat) (k1 : k ≤ 4) (hk : c.n = (k : Int)) : F30 n c = some (pulseS c.id_ c.session c.v.beat k c.busy c.asked, c) := by
 unfold F30 pulseS
 by_cases hb : c.busy = true
 ·rw [if_pos hb, if_pos hb, if_pos ⟨by simp [maxCells], by simp [maxCells]⟩]
  exact pulse_l n c k k1 hk (n + 8) 0 [c.asked] (by omega) (by omega) (by simp)
 ·rw [if_neg hb, if_neg hb, pulse_l' n c (n + 8)]
  exact pulse_l n c k k1 hk (n + 8) 0 [] (by omega) (by omega) (by simp)
theorem fewC (n : Nat) (c : Command) : ∃ b, F26 n c = some b := by
 unfold F26
 repeat' split
 all_goals exact ⟨_, rfl⟩
theorem clientBounds_pure (a0 a1 : Int) (a2 : Command) (w0 : (Lit.int .u8 a0).wf = true) (_ : (Lit.int .i64 a1).wf = true) (_ : Command.wf a2) : ∃ n, F8 n a0 a1 a2 = some true := by
 refine ⟨0, ?_⟩
 obtain ⟨b, hb⟩ := fewC 0 a2
 obtain ⟨u0, u1⟩ := u8_bd w0
 obtain ⟨k, k0, k1, hk⟩ : ∃ k : Nat, 1 ≤ k ∧ k ≤ 4 ∧ IntKind.wrap .i64 (IntKind.wrap .i64 (Int.tmod a0 4) + 1) = (k : Int) := by
  refine ⟨a0.toNat % 4 + 1, by omega, by omega, ?_⟩
  have : Int.tmod a0 4 = _ := tmod_u u0 4
  rw [this, wrap_id (x := ((a0.toNat % 4 : Nat) : Int)) (by omega) (by omega), wrap_id (by omega) (by omega)]
  omega
 have hj : ∀ r, r = askS (newC 3 k 1) a1 a2 → (a1 < 0 ∨ (k : Int) ≤ a1) → F8_j5 0 r = some true := by
  intro r hr ha
  have : r = (nPk, 19, newC 3 k 1) := by
   rw [hr]; unfold askS
   rw [if_neg (show ¬ (newC 3 k 1).busy = true from Bool.false_ne_true)]
   by_cases h : a1 < 0
   ·rw [if_pos h]
   ·rw [if_neg h]; exact if_pos (ha.resolve_left h)
  rw [this]
  unfold F8_j5 F29
  show ((F30 0 (newC 3 k 1)).bind _) = _
  rw [pulse_eq (newC 3 k 1) k k1 rfl]
  rfl
 unfold F8
 rw [hb, hk]
 simp only [Option.bind_some, Bool.not_true, Bool.false_eq_true, if_false]
 cases b with
 | false => rfl
 | true =>
  simp only [Bool.not_true, Bool.false_eq_true, if_false]
  rw [newC_eq 0 3 k k k0 k1 (clampk k0 k1), show imin (imax 3 0) 3 = 3 from rfl]
  simp only [Option.bind_some]
  rw [ask_eq]
  simp only [Option.bind_some, decide_eq_true_eq]
  by_cases h1 : a1 < 0
  ·rw [if_pos h1]; exact hj _ rfl (.inl h1)
  rw [if_neg h1]
  by_cases h2 : (k : Int) ≤ a1
  ·rw [if_pos h2]; exact hj _ rfl (.inr h2)
  rw [if_neg h2]
  unfold askS F29
  rw [if_neg (show ¬ (newC 3 k 1).busy = true from Bool.false_ne_true), if_neg h1, if_neg (show ¬ (newC 3 k 1).n ≤ a1 from h2)]
  by_cases h3 : isC (inC (newC 3 k 1).id_ (newC 3 k 1).session a2) = true
  ·rw [if_pos h3]
   show ((F30 0 _).bind _) = _
   rw [pulse_eq _ k k1 rfl]
   simp only [Option.bind_some]
   have e1 : pulseS 3 1 (-1) k true (pkC 3 1 1 a1 a2) = [pkC 3 1 1 a1 a2] := rfl
   have e2 : Point.eqb a2.At a2.At = true := (Point.eqb_iff _ _).2 rfl
   show (if ((IntKind.wrap .i64 (100 + 3) : Int) == 103) = true then if (a1 == a1) = true then if ((IntKind.wrap .i64 (0 + 1) : Int) == 1) = true then if ((3 : Int) == 3) = true then if ((1 : Int) == 1) = true then
    if (a2.Kind == a2.Kind) = true then if (a2.ID == a2.ID) = true then if Point.eqb a2.At a2.At = true then if (((pulseS 3 1 (-1) k true (pkC 3 1 1 a1 a2)).length : Int) == 1) = true then
     (ix (pulseS 3 1 (-1) k true (pkC 3 1 1 a1 a2)) 0).bind fun x => some (Command.eqb x.C (inC 3 1 a2)) else some false else some false else some false else some false else some false else some false else some false else some false else some false) = _
   rw [if_pos (by decide), if_pos (by simp), if_pos (by decide), if_pos (by decide), if_pos (by decide), if_pos (by simp), if_pos (by simp), if_pos e2, e1]
   show some (Command.eqb (inC 3 1 a2) (inC 3 1 a2)) = _
   rw [Command.eqb_refl]
  ·rw [if_neg h3]
   show ((F30 0 (newC 3 k 1)).bind _) = _
   rw [pulse_eq (newC 3 k 1) k k1 rfl]
   rfl
end Go.Proofs.Ythdabpmcojmhhaa
