/-
  CmdBack: what the functions compute answers as the statement says, in plain Lean. No condition.
-/
import Derived.Test.YthmbegagkgdopaaCmdBackCb
import Derived.Test.YthmbegagkgdopaaCmdBackP2
namespace Go.Proofs.Ythmbegagkgdopaa
open Go Go.Rx
set_option maxRecDepth 100000
set_option linter.unusedSimpArgs false
set_option linter.unnecessarySimpa false
set_option linter.unusedVariables false

theorem fewK (n : Nat) (c : Command) : ∃ b, F33 n c = some b := by
  unfold F33
  split
  · exact ⟨_, rfl⟩
  · split
    · exact ⟨_, rfl⟩
    · split
      · exact ⟨_, rfl⟩
      · split <;> exact ⟨_, rfl⟩
theorem i64_of {x : Int} (h : (Lit.int .i64 x).wf = true) : I64 x := by
  simp [Lit.wf, IntKind.min, IntKind.max, IntKind.bits, IntKind.signed] at h; unfold I64; omega
theorem nr_wf {c : Command} (h : Command.wf c) : NR c := by
  obtain ⟨_, _, _, _, _, hf, hv, _⟩ := h
  exact ⟨i64_of hf.1.1, i64_of hf.2.1.1, i64_of hf.2.2.1.1, i64_of hf.2.2.2.1, i64_of hv.1⟩
theorem ba_nil_r' (a : ByteArray) : a ++ ByteArray.empty = a := by
  apply ba_ext
  rw [ByteArray.data_append]
  exact Array.append_empty
theorem split_at (s : ByteArray) (m : Nat) (h : m ≤ s.size) : s = s.extract 0 m ++ s.extract m s.size := by
  apply ba_ext
  rw [ByteArray.data_append, ByteArray.data_extract, ByteArray.data_extract]
  show s.data = s.data.extract 0 m ++ s.data.extract m s.data.size
  have h' : m ≤ s.data.size := h
  rw [Array.extract_append_extract, Nat.zero_min, Nat.max_eq_right h', Array.extract_size]
theorem ext_ext (s : ByteArray) (k m : Nat) (h : m ≤ k) : (s.extract 0 k).extract 0 m = s.extract 0 m := by
  apply ba_ext
  rw [ByteArray.data_extract, ByteArray.data_extract, ByteArray.data_extract]
  rw [Array.extract_extract, Nat.zero_add, Nat.zero_add, Nat.min_eq_left h]
theorem byC_inj {a b : Command} (ha : isC a = true) (hb : isC b = true) (ra : NR a) (rb : NR b) (h : byC a = byC b) : a = b := by
  have hz := (byC_size (isC_in ha)).1
  have h1 := read_back (n := 500) (by omega) (s := byC a) (by omega) ha ra ⟨ByteArray.empty, by rw [ba_nil_r']⟩
  have h2 := read_back (n := 500) (by omega) (s := byC a) (by omega) hb rb ⟨ByteArray.empty, by rw [ba_nil_r', h]⟩
  rw [h1] at h2
  exact congrArg Prod.fst (Option.some.inj h2)
theorem cut_none {a : Command} (ha : isC a = true) (ra : NR a) {k : Nat} (hk : k < (byC a).size) {n : Nat} (hn : 500 ≤ n) : ∃ r, F40 n ((byC a).extract 0 k) = some r ∧ r.2.2 ≠ 0 ∧ r.2.1 = 0 := by
  have hz := (byC_size (isC_in ha)).1
  have hx := ext0_size (byC a) k (by omega)
  obtain ⟨r, q, h | ⟨e0, hc, hr, h1, h2, h3⟩⟩ := read_tot (n := n) (by omega) (s := (byC a).extract 0 k) (by omega) (by omega)
  · exact ⟨r, q, isErr_ne h.1, h.2.1⟩
  · exfalso
    rw [ext_ext _ _ _ (by omega)] at h3
    have hp : Pre (byC a) (byC r.1) := ⟨(byC a).extract (byC r.1).size (byC a).size, by
      conv => lhs; rw [split_at (byC a) (byC r.1).size (by omega), ← h3]⟩
    have u1 := read_back (n := n) (by omega) (s := byC a) (by omega) ha ra ⟨ByteArray.empty, by rw [ba_nil_r']⟩
    have u2 := read_back (n := n) (by omega) (s := byC a) (by omega) hc hr hp
    rw [u1] at u2
    have := congrArg (fun x : Command × Int × Int => x.2.1) (Option.some.inj u2)
    simp only at this
    omega

theorem cmdBack_pure (a0 : Command) (a1 : Command) (a2 : ByteArray) (a3 : Int) (w0 : Command.wf a0) (w1 : Command.wf a1) (_ : a2.size ≤ maxLen) (w3 : (Lit.int .u8 a3).wf = true) : ∃ n, F10 n a0 a1 a2 a3 = some true := by
  refine ⟨500, ?_⟩
  obtain ⟨b1, h1⟩ := fewK 500 a0
  obtain ⟨b2, h2⟩ := fewK 500 a1
  have h3 : 0 ≤ a3 ∧ a3 ≤ 255 := by simpa [Lit.wf, IntKind.min, IntKind.max, IntKind.bits, IntKind.signed] using w3
  have r0 := nr_wf w0
  have r1 := nr_wf w1
  unfold F10
  simp only [Option.bind_some, Bool.not_true, Bool.false_eq_true, if_false, h1, h2, isC_eq]
  cases b1 with
  | false => rfl
  | true =>
    cases b2 with
    | false => rfl
    | true =>
      simp only [Bool.not_true, Bool.false_eq_true, if_false]
      by_cases g : (60 : Int) < (a2.size : Int)
      · rw [if_pos (by simpa using g)]
      rw [if_neg (by simpa using g)]
      cases hc : isC a0 with
      | false => rfl
      | true =>
        cases hd : isC a1 with
        | false => rfl
        | true =>
          have hz := byC_size (isC_in hc)
          have hb := read_back (n := 500) (by omega) (s := byC a0 ++ a2) (by rw [ba_size]; omega) hc r0 ⟨a2, rfl⟩
          simp only [Bool.not_true, Bool.false_eq_true, if_false, bytes_is (n := 500) (by omega) hc, bytes_is (n := 500) (by omega) hd, Option.bind_some]
          rw [if_pos (by omega), hb]
          have m : Int.tmod (IntKind.wrap .i64 a3) ((byC a0).size : Int) = a3 % ((byC a0).size : Int) := by
            rw [w64 (by omega) (by omega), Int.tmod_eq_emod_of_nonneg h3.1]
          have m0 : 0 ≤ a3 % ((byC a0).size : Int) := Int.emod_nonneg _ (by omega)
          have m1 : a3 % ((byC a0).size : Int) < ((byC a0).size : Int) := Int.emod_lt_of_pos _ (by omega)
          obtain ⟨r, q1, q2, q3⟩ := cut_none hc r0 (k := (a3 % ((byC a0).size : Int)).toNat) (by omega) (Nat.le_refl 500)
          have ne0 : (((byC a0).size : Int) == 0) = false := by
            rw [beq_eq_false_iff_ne]; omega
          have q2' : (r.2.2 != 0) = true := by
            rw [bne_iff_ne]; exact q2
          have q3' : (r.2.1 == 0) = true := by rw [q3]; rfl
          rw [Option.bind_some]
          have eq0 : (!(Command.eqb a0 a0)) = false := by rw [Command.eqb_refl]; rfl
          have ez : (((byC a0).size : Int) != ((byC a0).size : Int)) = false := by rw [bne_self_eq_false]
          have nz : ((0 : Int) != 0) = false := rfl
          simp only [nz, eq0, ez, ne0, Bool.false_eq_true, if_false]
          rw [if_pos (by omega), m, if_pos ⟨m0, by omega⟩, q1]
          simp only [Option.bind_some, q2', q3', if_true]
          refine congrArg some ?_
          rw [beq_iff_eq]
          by_cases e : a0 = a1
          · subst e
            rw [(toList_eq _ _).2 rfl, Command.eqb_refl]
          · have e1 : ((byC a0).toList == (byC a1).toList) = false := by
              rw [Bool.eq_false_iff]
              intro h; exact e (byC_inj hc hd r0 r1 ((toList_eq _ _).1 h))
            have e2 : Command.eqb a0 a1 = false := by
              rw [Bool.eq_false_iff]
              intro h; exact e ((Command.eqb_iff _ _).1 h)
            rw [e1, e2]
end Go.Proofs.Ythmbegagkgdopaa
