/-
  Commands read: always something; and what was written is read. No condition.
-/
import Derived.Test.YthmbegagkgdopaaCmdRowsCa
import Derived.Test.YthmbegagkgdopaaCmdRowsP2
namespace Go.Proofs.Ythmbegagkgdopaa
open Go Go.Rx
set_option maxRecDepth 100000
set_option maxHeartbeats 1000000
set_option linter.unusedSimpArgs false
set_option linter.unnecessarySimpa false
set_option linter.unusedVariables false

theorem toList_loop (bs : ByteArray) : ∀ (k i : Nat) (r : List UInt8), k = bs.size - i → ByteArray.toList.loop bs i r = r.reverse ++ bs.data.toList.drop i
  | 0, i, r, h => by
    rw [ByteArray.toList.loop]
    have : ¬ i < bs.size := by omega
    rw [if_neg this]
    have h2 : bs.data.toList.drop i = [] := List.drop_eq_nil_of_le (by simp only [Array.length_toList]; have : bs.data.size = bs.size := rfl; omega)
    rw [h2, List.append_nil]
  | k + 1, i, r, h => by
    rw [ByteArray.toList.loop]
    have hi : i < bs.size := by omega
    have hi' : i < bs.data.toList.length := by simp only [Array.length_toList]; exact hi
    rw [if_pos hi, toList_loop bs k (i + 1) _ (by omega), List.drop_eq_getElem_cons hi']
    have e : bs.get! i = bs.data.toList[i] := by
      rw [ByteArray.get!.eq_def]
      have hi2 : i < bs.data.size := hi
      simp [getElem!_pos bs.data i hi2]
    rw [e]
    simp
theorem toList_data (bs : ByteArray) : bs.toList = bs.data.toList := by
  unfold ByteArray.toList
  rw [toList_loop bs bs.size 0 [] (by omega)]; simp
theorem toList_eq (a b : ByteArray) : (a.toList == b.toList) = true ↔ a = b := by
  rw [toList_data, toList_data, beq_iff_eq]
  constructor
  · intro h
    have := Array.ext' h
    cases a; cases b; simp only at this; rw [this]
  · rintro rfl; rfl

/-! ### one number -/

def I64 (x : Int) : Prop := -9223372036854775808 ≤ x ∧ x < 9223372036854775808
def Ends (s : ByteArray) (e a : Int) : Prop := (e = 0 ∨ isErr e) ∧ 0 ≤ a ∧ a ≤ (s.size : Int)
theorem num_tot {n : Nat} {s : ByteArray} (hs : s.size ≤ 100000) (hn : s.size ≤ n) {a : Int} (h0 : 0 ≤ a) (h1 : a ≤ (s.size : Int)) :
    ∃ r, F64s0 n s a = some r ∧ I64 r.1 ∧ Ends s r.2.1 r.2.2 := by
  have hz := ext_size s a h0 h1
  obtain ⟨r, q1, q2, q3⟩ := ints_eq n (s.extract a.toNat s.size) (by omega) (by omega)
  unfold F64s0
  rw [if_pos ⟨h0, h1⟩, q1, Option.bind_some]
  refine ⟨_, rfl, q2, ?_⟩
  rcases q3 with ⟨e0, k1, k2⟩ | ⟨e0, k1⟩
  · have w : IntKind.wrap .i64 (a + r.2.1) = a + r.2.1 := w64 (by omega) (by omega)
    exact ⟨.inl e0, by simp only [w]; omega, by simp only [w]; omega⟩
  · have w : IntKind.wrap .i64 (a + r.2.1) = a := by rw [k1, w64 (by omega) (by omega)]; omega
    exact ⟨.inr e0, by simp only [w]; omega, by simp only [w]; omega⟩
/-- One beginning of the bytes. -/
def Pre (s P : ByteArray) : Prop := ∃ R, s = P ++ R
theorem Pre.of {s P X : ByteArray} (h : Pre s (P ++ X)) : Pre s P := by
  obtain ⟨R, h⟩ := h
  exact ⟨X ++ R, by rw [h, ba_assoc]⟩
theorem Pre.size {s P : ByteArray} (h : Pre s P) : P.size ≤ s.size := by
  obtain ⟨R, rfl⟩ := h
  rw [ba_size]; omega
theorem num_back {n : Nat} (hn : 10 ≤ n) {s P : ByteArray} {v : Int} (hs : s.size ≤ 100000) (h : Pre s (P ++ zg v)) (hv : I64 v) :
    F64s0 n s (P.size : Int) = some (v, 0, ((P ++ zg v).size : Int)) := by
  obtain ⟨R, e⟩ := h
  rw [ba_assoc] at e
  have hz : s.size = P.size + (zg v ++ R).size := by rw [e, ba_size]
  have hx : s.extract P.size s.size = zg v ++ R := by rw [e]; exact ext_app _ _
  unfold F64s0
  rw [if_pos ⟨by omega, by omega⟩, Int.toNat_natCast, hx, ints_zg n hn v hv.1 hv.2 R (by omega), Option.bind_some]
  have := zg_size v
  have w : IntKind.wrap .i64 ((P.size : Int) + ((zg v).size : Int)) = ((P ++ zg v).size : Int) := by
    rw [ba_size, w64 (by rw [ba_size] at hz; omega) (by rw [ba_size] at hz; omega)]; push_cast; rfl
  simp only [w]
theorem text_back {n : Nat} (hn : 10 ≤ n) {s P t : ByteArray} (hs : s.size ≤ 100000) (h : Pre s (P ++ tx t)) (ht : t.size ≤ 12) :
    F67 n (s.extract (P.size : Int).toNat s.size) 12 = some (t, ((tx t).size : Int), 0) ∧ IntKind.wrap .i64 ((P.size : Int) + ((tx t).size : Int)) = ((P ++ tx t).size : Int) := by
  have hp := h.size
  obtain ⟨R, e⟩ := h
  rw [ba_assoc] at e
  have hz : s.size = P.size + (tx t ++ R).size := by rw [e, ba_size]
  have hx : s.extract P.size s.size = tx t ++ R := by rw [e]; exact ext_app _ _
  rw [Int.toNat_natCast, hx]
  refine ⟨texts_tx n hn t R ht (by omega), ?_⟩
  rw [ba_size] at hp ⊢
  rw [w64 (by omega) (by omega)]; push_cast; rfl
theorem nz : ¬ (((0 : Int) != 0) = true) := by decide
theorem clamp {v : Int} (h : -1000000 ≤ v ∧ v ≤ 1000000) : imin (imax v (-1000001)) 1000001 = v := by
  unfold imin imax; split <;> split <;> omega
theorem clampI {v : Int} (h : -1000000 ≤ v ∧ v ≤ 1000000) : I64 v := by unfold I64; omega

/-! ### the numbers of a kind -/

/-- What reading a row of numbers leaves. -/
def WR (s : ByteArray) (c : Command) (r : Int × Command × Int) : Prop := Ends s r.1 r.2.2 ∧ r.2.1.F = c.F ∧ r.2.1.Value = c.Value
theorem whole0_tot {n : Nat} {s : ByteArray} (hs : s.size ≤ 100000) (hn : s.size ≤ n) (c : Command) {a : Int} (h0 : 0 ≤ a) (h1 : a ≤ (s.size : Int)) : ∃ r, F66s0 n c s a = some r ∧ WR s c r := by
  unfold F66s0
  obtain ⟨r0, q0, _, b0⟩ := num_tot hs hn h0 h1
  rw [q0, Option.bind_some]
  split
  · exact ⟨_, rfl, b0, rfl, rfl⟩
  obtain ⟨r1, q1, _, b1⟩ := num_tot hs hn b0.2.1 b0.2.2
  rw [q1, Option.bind_some]
  split
  · exact ⟨_, rfl, b1, rfl, rfl⟩
  obtain ⟨r2, q2, _, b2⟩ := num_tot hs hn b1.2.1 b1.2.2
  rw [q2, Option.bind_some]
  split
  · exact ⟨_, rfl, b2, rfl, rfl⟩
  exact ⟨_, rfl, ⟨.inl rfl, b2.2⟩, rfl, rfl⟩
theorem whole0_back {n : Nat} (hn : 10 ≤ n) {s P : ByteArray} (hs : s.size ≤ 100000) (c : Command) {v0 v1 v2 : Int} (h : Pre s (P ++ zg v0 ++ zg v1 ++ zg v2)) (i0 : -1000000 ≤ v0 ∧ v0 ≤ 1000000) (i1 : -1000000 ≤ v1 ∧ v1 ≤ 1000000) (i2 : -1000000 ≤ v2 ∧ v2 ≤ 1000000) : F66s0 n c s (P.size : Int) = some (0, Command.mk v0 c.ID c.Which c.To c.At c.F c.Value v1 v2 c.Rect, ((P ++ zg v0 ++ zg v1 ++ zg v2).size : Int)) := by
  have p2 : Pre s (P ++ zg v0 ++ zg v1 ++ zg v2) := h
  have p1 : Pre s (P ++ zg v0 ++ zg v1) := p2.of
  have p0 : Pre s (P ++ zg v0) := p1.of
  unfold F66s0
  rw [num_back hn hs p0 (clampI i0), Option.bind_some, if_neg nz]
  rw [num_back hn hs p1 (clampI i1), Option.bind_some, if_neg nz]
  rw [num_back hn hs p2 (clampI i2), Option.bind_some, if_neg nz]
  simp only [clamp i0, clamp i1, clamp i2]
theorem whole1_tot {n : Nat} {s : ByteArray} (hs : s.size ≤ 100000) (hn : s.size ≤ n) (c : Command) {a : Int} (h0 : 0 ≤ a) (h1 : a ≤ (s.size : Int)) : ∃ r, F66s1 n c s a = some r ∧ WR s c r := by
  unfold F66s1
  obtain ⟨r0, q0, _, b0⟩ := num_tot hs hn h0 h1
  rw [q0, Option.bind_some]
  split
  · exact ⟨_, rfl, b0, rfl, rfl⟩
  obtain ⟨r1, q1, _, b1⟩ := num_tot hs hn b0.2.1 b0.2.2
  rw [q1, Option.bind_some]
  split
  · exact ⟨_, rfl, b1, rfl, rfl⟩
  obtain ⟨r2, q2, _, b2⟩ := num_tot hs hn b1.2.1 b1.2.2
  rw [q2, Option.bind_some]
  split
  · exact ⟨_, rfl, b2, rfl, rfl⟩
  obtain ⟨r3, q3, _, b3⟩ := num_tot hs hn b2.2.1 b2.2.2
  rw [q3, Option.bind_some]
  split
  · exact ⟨_, rfl, b3, rfl, rfl⟩
  exact ⟨_, rfl, ⟨.inl rfl, b3.2⟩, rfl, rfl⟩
theorem whole1_back {n : Nat} (hn : 10 ≤ n) {s P : ByteArray} (hs : s.size ≤ 100000) (c : Command) {v0 v1 v2 v3 : Int} (h : Pre s (P ++ zg v0 ++ zg v1 ++ zg v2 ++ zg v3)) (i0 : -1000000 ≤ v0 ∧ v0 ≤ 1000000) (i1 : -1000000 ≤ v1 ∧ v1 ≤ 1000000) (i2 : -1000000 ≤ v2 ∧ v2 ≤ 1000000) (i3 : -1000000 ≤ v3 ∧ v3 ≤ 1000000) : F66s1 n c s (P.size : Int) = some (0, Command.mk c.Kind c.ID c.Which c.To c.At c.F c.Value c.Client c.Session (Rect.mk v0 v1 v2 v3), ((P ++ zg v0 ++ zg v1 ++ zg v2 ++ zg v3).size : Int)) := by
  have p3 : Pre s (P ++ zg v0 ++ zg v1 ++ zg v2 ++ zg v3) := h
  have p2 : Pre s (P ++ zg v0 ++ zg v1 ++ zg v2) := p3.of
  have p1 : Pre s (P ++ zg v0 ++ zg v1) := p2.of
  have p0 : Pre s (P ++ zg v0) := p1.of
  unfold F66s1
  rw [num_back hn hs p0 (clampI i0), Option.bind_some, if_neg nz]
  rw [num_back hn hs p1 (clampI i1), Option.bind_some, if_neg nz]
  rw [num_back hn hs p2 (clampI i2), Option.bind_some, if_neg nz]
  rw [num_back hn hs p3 (clampI i3), Option.bind_some, if_neg nz]
  simp only [clamp i0, clamp i1, clamp i2, clamp i3]
theorem whole2_tot {n : Nat} {s : ByteArray} (hs : s.size ≤ 100000) (hn : s.size ≤ n) (c : Command) {a : Int} (h0 : 0 ≤ a) (h1 : a ≤ (s.size : Int)) : ∃ r, F66s2 n c s a = some r ∧ WR s c r := by
  unfold F66s2
  obtain ⟨r0, q0, _, b0⟩ := num_tot hs hn h0 h1
  rw [q0, Option.bind_some]
  split
  · exact ⟨_, rfl, b0, rfl, rfl⟩
  obtain ⟨r1, q1, _, b1⟩ := num_tot hs hn b0.2.1 b0.2.2
  rw [q1, Option.bind_some]
  split
  · exact ⟨_, rfl, b1, rfl, rfl⟩
  exact ⟨_, rfl, ⟨.inl rfl, b1.2⟩, rfl, rfl⟩
theorem whole2_back {n : Nat} (hn : 10 ≤ n) {s P : ByteArray} (hs : s.size ≤ 100000) (c : Command) {v0 v1 : Int} (h : Pre s (P ++ zg v0 ++ zg v1)) (i0 : -1000000 ≤ v0 ∧ v0 ≤ 1000000) (i1 : -1000000 ≤ v1 ∧ v1 ≤ 1000000) : F66s2 n c s (P.size : Int) = some (0, Command.mk c.Kind c.ID v0 v1 c.At c.F c.Value c.Client c.Session c.Rect, ((P ++ zg v0 ++ zg v1).size : Int)) := by
  have p1 : Pre s (P ++ zg v0 ++ zg v1) := h
  have p0 : Pre s (P ++ zg v0) := p1.of
  unfold F66s2
  rw [num_back hn hs p0 (clampI i0), Option.bind_some, if_neg nz]
  rw [num_back hn hs p1 (clampI i1), Option.bind_some, if_neg nz]
  simp only [clamp i0, clamp i1]
theorem whole3_tot {n : Nat} {s : ByteArray} (hs : s.size ≤ 100000) (hn : s.size ≤ n) (c : Command) {a : Int} (h0 : 0 ≤ a) (h1 : a ≤ (s.size : Int)) : ∃ r, F66s3 n c s a = some r ∧ WR s c r := by
  unfold F66s3
  obtain ⟨r0, q0, _, b0⟩ := num_tot hs hn h0 h1
  rw [q0, Option.bind_some]
  split
  · exact ⟨_, rfl, b0, rfl, rfl⟩
  exact ⟨_, rfl, ⟨.inl rfl, b0.2⟩, rfl, rfl⟩
theorem whole3_back {n : Nat} (hn : 10 ≤ n) {s P : ByteArray} (hs : s.size ≤ 100000) (c : Command) {v0 : Int} (h : Pre s (P ++ zg v0)) (i0 : -1000000 ≤ v0 ∧ v0 ≤ 1000000) : F66s3 n c s (P.size : Int) = some (0, Command.mk c.Kind v0 c.Which c.To c.At c.F c.Value c.Client c.Session c.Rect, ((P ++ zg v0).size : Int)) := by
  have p0 : Pre s (P ++ zg v0) := h
  unfold F66s3
  rw [num_back hn hs p0 (clampI i0), Option.bind_some, if_neg nz]
  simp only [clamp i0]
theorem whole4_tot {n : Nat} {s : ByteArray} (hs : s.size ≤ 100000) (hn : s.size ≤ n) (c : Command) {a : Int} (h0 : 0 ≤ a) (h1 : a ≤ (s.size : Int)) : ∃ r, F66s4 n c s a = some r ∧ WR s c r := by
  unfold F66s4
  obtain ⟨r0, q0, _, b0⟩ := num_tot hs hn h0 h1
  rw [q0, Option.bind_some]
  split
  · exact ⟨_, rfl, b0, rfl, rfl⟩
  obtain ⟨r1, q1, _, b1⟩ := num_tot hs hn b0.2.1 b0.2.2
  rw [q1, Option.bind_some]
  split
  · exact ⟨_, rfl, b1, rfl, rfl⟩
  exact ⟨_, rfl, ⟨.inl rfl, b1.2⟩, rfl, rfl⟩
theorem whole4_back {n : Nat} (hn : 10 ≤ n) {s P : ByteArray} (hs : s.size ≤ 100000) (c : Command) {v0 v1 : Int} (h : Pre s (P ++ zg v0 ++ zg v1)) (i0 : -1000000 ≤ v0 ∧ v0 ≤ 1000000) (i1 : -1000000 ≤ v1 ∧ v1 ≤ 1000000) : F66s4 n c s (P.size : Int) = some (0, Command.mk c.Kind v0 v1 c.To c.At c.F c.Value c.Client c.Session c.Rect, ((P ++ zg v0 ++ zg v1).size : Int)) := by
  have p1 : Pre s (P ++ zg v0 ++ zg v1) := h
  have p0 : Pre s (P ++ zg v0) := p1.of
  unfold F66s4
  rw [num_back hn hs p0 (clampI i0), Option.bind_some, if_neg nz]
  rw [num_back hn hs p1 (clampI i1), Option.bind_some, if_neg nz]
  simp only [clamp i0, clamp i1]
theorem whole5_tot {n : Nat} {s : ByteArray} (hs : s.size ≤ 100000) (hn : s.size ≤ n) (c : Command) {a : Int} (h0 : 0 ≤ a) (h1 : a ≤ (s.size : Int)) : ∃ r, F66s5 n c s a = some r ∧ WR s c r := by
  unfold F66s5
  obtain ⟨r0, q0, _, b0⟩ := num_tot hs hn h0 h1
  rw [q0, Option.bind_some]
  split
  · exact ⟨_, rfl, b0, rfl, rfl⟩
  obtain ⟨r1, q1, _, b1⟩ := num_tot hs hn b0.2.1 b0.2.2
  rw [q1, Option.bind_some]
  split
  · exact ⟨_, rfl, b1, rfl, rfl⟩
  obtain ⟨r2, q2, _, b2⟩ := num_tot hs hn b1.2.1 b1.2.2
  rw [q2, Option.bind_some]
  split
  · exact ⟨_, rfl, b2, rfl, rfl⟩
  exact ⟨_, rfl, ⟨.inl rfl, b2.2⟩, rfl, rfl⟩
theorem whole5_back {n : Nat} (hn : 10 ≤ n) {s P : ByteArray} (hs : s.size ≤ 100000) (c : Command) {v0 v1 v2 : Int} (h : Pre s (P ++ zg v0 ++ zg v1 ++ zg v2)) (i0 : -1000000 ≤ v0 ∧ v0 ≤ 1000000) (i1 : -1000000 ≤ v1 ∧ v1 ≤ 1000000) (i2 : -1000000 ≤ v2 ∧ v2 ≤ 1000000) : F66s5 n c s (P.size : Int) = some (0, Command.mk c.Kind v0 c.Which c.To (Point.mk v1 v2) c.F c.Value c.Client c.Session c.Rect, ((P ++ zg v0 ++ zg v1 ++ zg v2).size : Int)) := by
  have p2 : Pre s (P ++ zg v0 ++ zg v1 ++ zg v2) := h
  have p1 : Pre s (P ++ zg v0 ++ zg v1) := p2.of
  have p0 : Pre s (P ++ zg v0) := p1.of
  unfold F66s5
  rw [num_back hn hs p0 (clampI i0), Option.bind_some, if_neg nz]
  rw [num_back hn hs p1 (clampI i1), Option.bind_some, if_neg nz]
  rw [num_back hn hs p2 (clampI i2), Option.bind_some, if_neg nz]
  simp only [clamp i0, clamp i1, clamp i2]
theorem whole6_tot {n : Nat} {s : ByteArray} (hs : s.size ≤ 100000) (hn : s.size ≤ n) (c : Command) {a : Int} (h0 : 0 ≤ a) (h1 : a ≤ (s.size : Int)) : ∃ r, F66s6 n c s a = some r ∧ WR s c r := by
  unfold F66s6
  obtain ⟨r0, q0, _, b0⟩ := num_tot hs hn h0 h1
  rw [q0, Option.bind_some]
  split
  · exact ⟨_, rfl, b0, rfl, rfl⟩
  obtain ⟨r1, q1, _, b1⟩ := num_tot hs hn b0.2.1 b0.2.2
  rw [q1, Option.bind_some]
  split
  · exact ⟨_, rfl, b1, rfl, rfl⟩
  exact ⟨_, rfl, ⟨.inl rfl, b1.2⟩, rfl, rfl⟩
theorem whole6_back {n : Nat} (hn : 10 ≤ n) {s P : ByteArray} (hs : s.size ≤ 100000) (c : Command) {v0 v1 : Int} (h : Pre s (P ++ zg v0 ++ zg v1)) (i0 : -1000000 ≤ v0 ∧ v0 ≤ 1000000) (i1 : -1000000 ≤ v1 ∧ v1 ≤ 1000000) : F66s6 n c s (P.size : Int) = some (0, Command.mk c.Kind c.ID c.Which c.To (Point.mk v0 v1) c.F c.Value c.Client c.Session c.Rect, ((P ++ zg v0 ++ zg v1).size : Int)) := by
  have p1 : Pre s (P ++ zg v0 ++ zg v1) := h
  have p0 : Pre s (P ++ zg v0) := p1.of
  unfold F66s6
  rw [num_back hn hs p0 (clampI i0), Option.bind_some, if_neg nz]
  rw [num_back hn hs p1 (clampI i1), Option.bind_some, if_neg nz]
  simp only [clamp i0, clamp i1]
theorem whole7_is (n : Nat) (s : ByteArray) (a : Int) : F66s7 n s a = some () := rfl

/-! ### always something -/

def zF : A4 Field := A4.mk (Field.mk 0 ByteArray.empty) (Field.mk 0 ByteArray.empty) (Field.mk 0 ByteArray.empty) (Field.mk 0 ByteArray.empty)
def zC : Command := Command.mk 0 0 0 0 (Point.mk 0 0) zF (Field.mk 0 ByteArray.empty) 0 0 (Rect.mk 0 0 0 0)
structure NR (c : Command) : Prop where
  n0 : I64 c.F.a0.N
  n1 : I64 c.F.a1.N
  n2 : I64 c.F.a2.N
  n3 : I64 c.F.a3.N
  v : I64 c.Value.N
theorem I64_0 : I64 0 := by unfold I64; omega
theorem zC_nr : NR zC := ⟨I64_0, I64_0, I64_0, I64_0, I64_0⟩
/-- What reading tells. -/
def RR (s : ByteArray) (r : Command × Int × Int) : Prop :=
  (isErr r.2.2 ∧ r.2.1 = 0 ∧ r.1 = zC) ∨ (r.2.2 = 0 ∧ isC r.1 = true ∧ NR r.1 ∧ r.2.1 = ((byC r.1).size : Int) ∧ (byC r.1).size ≤ s.size ∧ byC r.1 = s.extract 0 (byC r.1).size)
theorem ext0_size (s : ByteArray) (k : Nat) (h : k ≤ s.size) : (s.extract 0 k).size = k := by
  rw [ByteArray.size_extract]; omega
theorem read_j47 {n : Nat} (hn : 10 ≤ n) (s : ByteArray) (g : Command) (hg : NR g) {i : Int} (h0 : 0 ≤ i) (h1 : i ≤ (s.size : Int)) : ∃ r, F40_j47 n s g i = some r ∧ RR s r := by
  unfold F40_j47
  cases hc : isC g with
  | false =>
    rw [bytes_no hc, Option.bind_some, if_pos (by decide)]
    exact ⟨_, rfl, .inl ⟨.inr (.inl rfl), rfl, rfl⟩⟩
  | true =>
    rw [bytes_is hn hc, Option.bind_some, if_neg nz, if_pos ⟨h0, h1⟩]
    simp only
    cases e : ((byC g).toList == (s.extract 0 i.toNat).toList) with
    | false => exact ⟨_, rfl, .inl ⟨.inr (.inl rfl), rfl, rfl⟩⟩
    | true =>
      have q := (toList_eq _ _).1 e
      have hz : (byC g).size = i.toNat := by rw [q, ext0_size _ _ (by omega)]
      refine ⟨_, rfl, .inr ⟨rfl, hc, hg, by simp only; omega, by simp only; omega, ?_⟩⟩
      rw [hz]; exact q
theorem err_of {e : Int} (h : e = 0 ∨ isErr e) (hne : ¬ e = 0) : isErr e := h.resolve_left hne
theorem read_j20 {n : Nat} (hn : 10 ≤ n) (s : ByteArray) (g : Command) (hg : NR g) {e i : Int} (h : Ends s e i) : ∃ r, F40_j20 n s g e i = some r ∧ RR s r := by
  unfold F40_j20
  by_cases he : e = 0
  · rw [if_neg (by simp [he])]; exact read_j47 hn s g hg h.2.1 h.2.2
  · rw [if_pos (by simp [he])]; exact ⟨_, rfl, .inl ⟨err_of h.1 he, rfl, rfl⟩⟩
theorem read_j44 {n : Nat} (hn : 10 ≤ n) (s : ByteArray) (g : Command) (hg : NR g) {e i : Int} (h : Ends s e i) : ∃ r, F40_j44 n s g e i = some r ∧ RR s r := by
  unfold F40_j44
  by_cases he : e = 0
  · rw [if_neg (by simp [he])]; exact read_j47 hn s g hg h.2.1 h.2.2
  · rw [if_pos (by simp [he])]; exact ⟨_, rfl, .inl ⟨err_of h.1 he, rfl, rfl⟩⟩
/-- A field, and what follows it. -/
theorem field_tot {n : Nat} {s : ByteArray} (hs : s.size ≤ 100000) (hn : s.size ≤ n) {i : Int} (h0 : 0 ≤ i) (h1 : i ≤ (s.size : Int)) (K : Field → Int → Int → Option (Command × Int × Int)) (N : Int → Int → Option (Command × Int × Int))
    (hK : ∀ f e a, I64 f.N → Ends s e a → ∃ r, K f e a = some r ∧ RR s r) (hN : ∀ e a, Ends s e a → ∃ r, N e a = some r ∧ RR s r) :
    ∃ r, (if 0 ≤ (i : Int) ∧ (i : Int) ≤ (s.size : Int) then
      (F67 n (s.extract i.toNat s.size) 12).bind fun (r39 : (ByteArray × Int × Int)) =>
      if r39.2.2 == 0 then
        (F64s0 n s (IntKind.wrap .i64 (i + r39.2.1))).bind fun (r40 : (Int × Int × Int)) => K (Field.mk r40.1 r39.1) r40.2.1 r40.2.2
      else N r39.2.2 (IntKind.wrap .i64 (i + r39.2.1))
      else none) = some r ∧ RR s r := by
  have hz := ext_size s i h0 h1
  obtain ⟨r, q1, q3⟩ := texts_eq n (s.extract i.toNat s.size) (by omega) (by omega)
  rw [if_pos ⟨h0, h1⟩, q1, Option.bind_some]
  rcases q3 with ⟨e0, k1, k2⟩ | ⟨e0, k0, k1⟩
  · have w : IntKind.wrap .i64 (i + r.2.1) = i + r.2.1 := w64 (by omega) (by omega)
    rw [if_pos (by simp [e0]), w]
    obtain ⟨p, u1, u2, u3⟩ := num_tot hs hn (a := i + r.2.1) (by omega) (by omega)
    rw [u1, Option.bind_some]
    exact hK _ _ _ u2 u3
  · have w : IntKind.wrap .i64 (i + r.2.1) = i := by rw [k1, w64 (by omega) (by omega)]; omega
    rw [if_neg (by simp [isErr_ne e0]), w]
    exact hN _ _ ⟨.inr e0, h0, h1⟩
theorem read_j38 {n : Nat} (hn : 10 ≤ n) {s : ByteArray} (hs : s.size ≤ 100000) (hm : s.size ≤ n) (g : Command) (hg : NR g) {e i : Int} (h : Ends s e i) : ∃ r, F40_j38 n s g e i = some r ∧ RR s r := by
  unfold F40_j38
  by_cases he : e = 0
  · rw [if_neg (by simp [he])]
    exact field_tot hs hm h.2.1 h.2.2 (fun f e a => F40_j44 n s (Command.mk g.Kind g.ID g.Which g.To g.At (A4.mk g.F.a0 g.F.a1 g.F.a2 f) g.Value g.Client g.Session g.Rect) e a) (fun e a => F40_j44 n s g e a)
      (fun f e a hf ha => read_j44 hn s (Command.mk g.Kind g.ID g.Which g.To g.At (A4.mk g.F.a0 g.F.a1 g.F.a2 f) g.Value g.Client g.Session g.Rect) ⟨hg.n0, hg.n1, hg.n2, hf, hg.v⟩ ha) (fun e a ha => read_j44 hn s g hg ha)
  · rw [if_pos (by simp [he])]; exact ⟨_, rfl, .inl ⟨err_of h.1 he, rfl, rfl⟩⟩
theorem read_j32 {n : Nat} (hn : 10 ≤ n) {s : ByteArray} (hs : s.size ≤ 100000) (hm : s.size ≤ n) (g : Command) (hg : NR g) {e i : Int} (h : Ends s e i) : ∃ r, F40_j32 n s g e i = some r ∧ RR s r := by
  unfold F40_j32
  by_cases he : e = 0
  · rw [if_neg (by simp [he])]
    exact field_tot hs hm h.2.1 h.2.2 (fun f e a => F40_j38 n s (Command.mk g.Kind g.ID g.Which g.To g.At (A4.mk g.F.a0 g.F.a1 f g.F.a3) g.Value g.Client g.Session g.Rect) e a) (fun e a => F40_j38 n s g e a)
      (fun f e a hf ha => read_j38 hn hs hm (Command.mk g.Kind g.ID g.Which g.To g.At (A4.mk g.F.a0 g.F.a1 f g.F.a3) g.Value g.Client g.Session g.Rect) ⟨hg.n0, hg.n1, hf, hg.n3, hg.v⟩ ha) (fun e a ha => read_j38 hn hs hm g hg ha)
  · rw [if_pos (by simp [he])]; exact ⟨_, rfl, .inl ⟨err_of h.1 he, rfl, rfl⟩⟩
theorem read_j26 {n : Nat} (hn : 10 ≤ n) {s : ByteArray} (hs : s.size ≤ 100000) (hm : s.size ≤ n) (g : Command) (hg : NR g) {e i : Int} (h : Ends s e i) : ∃ r, F40_j26 n s g e i = some r ∧ RR s r := by
  unfold F40_j26
  by_cases he : e = 0
  · rw [if_neg (by simp [he])]
    exact field_tot hs hm h.2.1 h.2.2 (fun f e a => F40_j32 n s (Command.mk g.Kind g.ID g.Which g.To g.At (A4.mk g.F.a0 f g.F.a2 g.F.a3) g.Value g.Client g.Session g.Rect) e a) (fun e a => F40_j32 n s g e a)
      (fun f e a hf ha => read_j32 hn hs hm (Command.mk g.Kind g.ID g.Which g.To g.At (A4.mk g.F.a0 f g.F.a2 g.F.a3) g.Value g.Client g.Session g.Rect) ⟨hg.n0, hf, hg.n2, hg.n3, hg.v⟩ ha) (fun e a ha => read_j32 hn hs hm g hg ha)
  · rw [if_pos (by simp [he])]; exact ⟨_, rfl, .inl ⟨err_of h.1 he, rfl, rfl⟩⟩
theorem read_j13 {n : Nat} (hn : 10 ≤ n) {s : ByteArray} (hs : s.size ≤ 100000) (hm : s.size ≤ n) (g : Command) (hg : NR g) {e i : Int} (h : Ends s e i) : ∃ r, F40_j13 n s g e i = some r ∧ RR s r := by
  unfold F40_j13
  by_cases he : e = 0
  · rw [if_neg (by simp [he]), values_eq, Option.bind_some]
    by_cases k1 : g.Kind = 1
    · rw [if_pos k1, if_neg (by decide), if_pos rfl]
      exact field_tot hs hm h.2.1 h.2.2 (fun f e a => F40_j26 n s (Command.mk g.Kind g.ID g.Which g.To g.At (A4.mk f g.F.a1 g.F.a2 g.F.a3) g.Value g.Client g.Session g.Rect) e a) (fun e a => F40_j26 n s g e a)
        (fun f e a hf ha => read_j26 hn hs hm (Command.mk g.Kind g.ID g.Which g.To g.At (A4.mk f g.F.a1 g.F.a2 g.F.a3) g.Value g.Client g.Session g.Rect) ⟨hf, hg.n1, hg.n2, hg.n3, hg.v⟩ ha) (fun e a ha => read_j26 hn hs hm g hg ha)
    · rw [if_neg k1]
      by_cases k3 : g.Kind = 3
      · rw [if_pos k3, if_neg (by decide), if_neg (by decide), if_pos rfl]
        exact field_tot hs hm h.2.1 h.2.2 (fun f e a => F40_j20 n s (Command.mk g.Kind g.ID g.Which g.To g.At g.F f g.Client g.Session g.Rect) e a) (fun e a => F40_j20 n s g e a)
          (fun f e a hf ha => read_j20 hn s (Command.mk g.Kind g.ID g.Which g.To g.At g.F f g.Client g.Session g.Rect) ⟨hg.n0, hg.n1, hg.n2, hg.n3, hf⟩ ha) (fun e a ha => read_j20 hn s g hg ha)
      · rw [if_neg k3, if_pos rfl]
        exact read_j47 hn s g hg h.2.1 h.2.2
  · rw [if_pos (by simp [he])]; exact ⟨_, rfl, .inl ⟨err_of h.1 he, rfl, rfl⟩⟩
theorem parts_lt (c : Command) : (if c.Kind = 1 then 1 else if c.Kind = 2 then 2 else if c.Kind = 3 then 3 else if c.Kind = 4 then 4 else if c.Kind = 5 then 5 else if c.Kind = 6 ∨ c.Kind = 7 then 6 else 0) < 7 := by
  repeat' split
  all_goals omega
theorem nr_of {g c : Command} (hg : NR g) (h1 : c.F = g.F) (h2 : c.Value = g.Value) : NR c := by
  obtain ⟨a, b, d, e, f⟩ := hg
  exact ⟨by rw [h1]; exact a, by rw [h1]; exact b, by rw [h1]; exact d, by rw [h1]; exact e, by rw [h2]; exact f⟩
theorem read_tot {n : Nat} (hn : 10 ≤ n) {s : ByteArray} (hs : s.size ≤ 100000) (hm : s.size ≤ n) : ∃ r, F40 n s = some r ∧ RR s r := by
  unfold F40
  obtain ⟨r, q, w, wf, wv⟩ := whole0_tot hs hm zC (a := 0) (by omega) (by omega)
  refine Eq.subst (motive := fun x => ∃ r, Option.bind x _ = some r ∧ RR s r) q.symm ?_
  rw [Option.bind_some]
  by_cases he : r.1 = 0
  · rw [if_neg (by simp [he]), parts_eq, Option.bind_some]
    have hg := nr_of zC_nr wf wv
    have hk := parts_lt r.2.1
    generalize (if r.2.1.Kind = 1 then 1 else if r.2.1.Kind = 2 then 2 else if r.2.1.Kind = 3 then 3 else if r.2.1.Kind = 4 then 4 else if r.2.1.Kind = 5 then 5 else if r.2.1.Kind = 6 ∨ r.2.1.Kind = 7 then 6 else 0) = k at hk ⊢
    by_cases k0 : k = 0
    · rw [if_pos k0, whole7_is, Option.bind_some]
      exact read_j13 hn hs hm _ hg ⟨.inl rfl, w.2⟩
    rw [if_neg k0]
    by_cases k1 : k = 1
    · rw [if_pos k1]
      obtain ⟨p, u, v, vf, vv⟩ := whole6_tot hs hm r.2.1 w.2.1 w.2.2
      rw [u, Option.bind_some]
      exact read_j13 hn hs hm _ (nr_of hg vf vv) v
    rw [if_neg k1]
    by_cases k2 : k = 2
    · rw [if_pos k2]
      obtain ⟨p, u, v, vf, vv⟩ := whole5_tot hs hm r.2.1 w.2.1 w.2.2
      rw [u, Option.bind_some]
      exact read_j13 hn hs hm _ (nr_of hg vf vv) v
    rw [if_neg k2]
    by_cases k3 : k = 3
    · rw [if_pos k3]
      obtain ⟨p, u, v, vf, vv⟩ := whole4_tot hs hm r.2.1 w.2.1 w.2.2
      rw [u, Option.bind_some]
      exact read_j13 hn hs hm _ (nr_of hg vf vv) v
    rw [if_neg k3]
    by_cases k4 : k = 4
    · rw [if_pos k4]
      obtain ⟨p, u, v, vf, vv⟩ := whole3_tot hs hm r.2.1 w.2.1 w.2.2
      rw [u, Option.bind_some]
      exact read_j13 hn hs hm _ (nr_of hg vf vv) v
    rw [if_neg k4]
    by_cases k5 : k = 5
    · rw [if_pos k5]
      obtain ⟨p, u, v, vf, vv⟩ := whole2_tot hs hm r.2.1 w.2.1 w.2.2
      rw [u, Option.bind_some]
      exact read_j13 hn hs hm _ (nr_of hg vf vv) v
    rw [if_neg k5]
    by_cases k6 : k = 6
    · rw [if_pos k6]
      obtain ⟨p, u, v, vf, vv⟩ := whole1_tot hs hm r.2.1 w.2.1 w.2.2
      rw [u, Option.bind_some]
      exact read_j13 hn hs hm _ (nr_of hg vf vv) v
    rw [if_neg k6]
    omega
  · rw [if_pos (by simp [he])]; exact ⟨_, rfl, .inl ⟨err_of w.1 he, rfl, rfl⟩⟩
end Go.Proofs.Ythmbegagkgdopaa
