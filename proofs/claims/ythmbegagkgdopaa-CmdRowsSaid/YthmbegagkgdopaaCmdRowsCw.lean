/-
  CmdRows: what the functions compute answers as the statement says, in plain Lean. No condition.
-/
import Derived.Test.YthmbegagkgdopaaCmdRowsCb
import Derived.Test.YthmbegagkgdopaaCmdRowsP2
namespace Go.Proofs.Ythmbegagkgdopaa
open Go Go.Rx
set_option maxRecDepth 100000
set_option linter.unusedSimpArgs false
set_option linter.unnecessarySimpa false
set_option linter.unusedVariables false

theorem fewW (n : Nat) (c : Command) : ∃ b, F33 n c = some b := by
  unfold F33
  split
  · exact ⟨_, rfl⟩
  · split
    · exact ⟨_, rfl⟩
    · split
      · exact ⟨_, rfl⟩
      · split <;> exact ⟨_, rfl⟩
theorem i64_ofW {x : Int} (h : (Lit.int .i64 x).wf = true) : I64 x := by
  simp [Lit.wf, IntKind.min, IntKind.max, IntKind.bits, IntKind.signed] at h; unfold I64; omega
theorem nr_wfW {c : Command} (h : Command.wf c) : NR c := by
  obtain ⟨_, _, _, _, _, hf, hv, _⟩ := h
  exact ⟨i64_ofW hf.1.1, i64_ofW hf.2.1.1, i64_ofW hf.2.2.1.1, i64_ofW hf.2.2.2.1, i64_ofW hv.1⟩
theorem nilW (a : ByteArray) : a ++ ByteArray.empty = a := by
  apply ba_ext
  rw [ByteArray.data_append]
  exact Array.append_empty

/-- The bytes of commands, one behind the other. -/
def cat : List Command → ByteArray
  | [] => ByteArray.empty
  | c :: l => byC c ++ cat l
theorem cat_snoc (c : Command) : ∀ l, cat (l ++ [c]) = cat l ++ byC c
  | [] => by show byC c ++ ByteArray.empty = _; rw [nilW, show cat [] = ByteArray.empty from rfl, ba_nil]
  | d :: l => by show byC d ++ cat (l ++ [c]) = byC d ++ cat l ++ byC c; rw [cat_snoc c l, ba_assoc]

theorem rows_l23 (n : Nat) (hn : 10 ≤ n) (s : ByteArray) (hs : s.size ≤ 100000) (l : List Command) (hl : l.length ≤ 20) (hc : ∀ c ∈ l, isC c = true ∧ NR c) : ∀ (m j : Nat) (P : ByteArray), s = P ++ cat (l.drop j) → j ≤ l.length → l.length - j < m →
    F13_l23 n s l m (P.size : Int) (j : Int) = some true
  | 0, j, P, _, _, h => by omega
  | m + 1, j, P, h, h1, h2 => by
    unfold F13_l23
    by_cases hj : j < l.length
    · rw [if_pos (lt_dec hj)]
      have ed : l.drop j = l[j] :: l.drop (j + 1) := List.drop_eq_getElem_cons hj
      have hx := ixg l j hj
      obtain ⟨ha, hb⟩ := hc l[j] (List.getElem_mem hj)
      generalize l[j] = c at *
      rw [ed] at h
      have h' : s = P ++ (byC c ++ cat (l.drop (j + 1))) := h
      have hz : s.size = P.size + (byC c ++ cat (l.drop (j + 1))).size := by rw [h', ba_size]
      have hz2 := ba_size (byC c) (cat (l.drop (j + 1)))
      have hbz := byC_size (isC_in ha)
      have he : s.extract P.size s.size = byC c ++ cat (l.drop (j + 1)) := by rw [h']; exact ext_app _ _
      rw [if_pos ⟨by omega, by omega⟩, Int.toNat_natCast, he, read_back hn (by omega) ha hb ⟨_, rfl⟩, Option.bind_some, if_neg nz, hx, Option.bind_some]
      have q : (!(Command.eqb c c)) = false := by rw [Command.eqb_refl]; rfl
      have q2 : decide (((byC c).size : Int) < 1) = false := by rw [decide_eq_false_iff_not]; omega
      simp only [q, q2, Bool.false_eq_true, if_false]
      have w : IntKind.wrap .i64 ((P.size : Int) + ((byC c).size : Int)) = ((P ++ byC c).size : Int) := by
        rw [ba_size, w64 (by omega) (by omega)]; push_cast; rfl
      rw [w, dsucc (show j < maxLen by simp only [maxLen]; omega)]
      exact rows_l23 n hn s hs l hl hc m (j + 1) (P ++ byC c) (by rw [h', ba_assoc]) (by omega) (by omega)
    · have ed : l.drop j = [] := List.drop_eq_nil_of_le (by omega)
      rw [if_neg (by rw [ge_dec hj]; decide)]
      rw [ed] at h
      have h' : s = P := by rw [h, show cat [] = ByteArray.empty from rfl, nilW]
      rw [h']
      simp only [beq_self_eq_true]

theorem rows_l11 (n : Nat) (hn : 100 ≤ n) (a0 : List Command) (hl : a0.length ≤ 20) (hw : ∀ c ∈ a0, Command.wf c) : ∀ (m i : Nat) (l : List Command), i ≤ a0.length → a0.length - i < m → l.length ≤ i → (∀ c ∈ l, isC c = true ∧ NR c) → (cat l).size ≤ 200 * i →
    F13_l11 n a0 m (cat l) l (i : Int) = some true
  | 0, i, l, _, h, _, _, _ => by omega
  | m + 1, i, l, h1, h2, h3, h4, h5 => by
    unfold F13_l11
    by_cases hi : i < a0.length
    · rw [if_pos (lt_dec hi)]
      have hx := ixg a0 i hi
      have hwf := hw a0[i] (List.getElem_mem hi)
      generalize a0[i] = c at *
      obtain ⟨b, hb⟩ := fewW n c
      simp only [hx, Option.bind_some, hb]
      cases b with
      | false => rfl
      | true =>
        simp only [Bool.not_true, Bool.false_eq_true, if_false]
        rw [dsucc (show i < maxLen by simp only [maxLen]; omega)]
        cases hc : isC c with
        | false =>
          rw [bytes_no hc, Option.bind_some, if_neg (by decide)]
          exact rows_l11 n hn a0 hl hw m (i + 1) l (by omega) (by omega) (by omega) h4 (by omega)
        | true =>
          have hz := byC_size (isC_in hc)
          have hs := ba_size (cat l) (byC c)
          have n0 : ((0 : Int) == 0) = true := rfl
          rw [bytes_is (by omega) hc, Option.bind_some, if_pos n0, if_pos (by simp only; omega), if_pos (by simp only [maxCells]; omega)]
          have := rows_l11 n hn a0 hl hw m (i + 1) (l ++ [c]) (by omega) (by omega) (by simp; omega) (by
            intro d hd
            rcases List.mem_append.1 hd with hd | hd
            · exact h4 d hd
            · rw [List.mem_singleton.1 hd]; exact ⟨hc, nr_wfW hwf⟩) (by rw [cat_snoc]; omega)
          rw [cat_snoc] at this
          exact this
    · rw [if_neg (by rw [ge_dec hi]; decide)]
      exact rows_l23 n (by omega) (cat l) (by omega) l (by omega) h4 (n + 8) 0 ByteArray.empty (by rw [ba_nil, List.drop_zero]) (by omega) (by omega)

theorem cmdRows_pure (a0 : List Command) (w : (∀ x ∈ a0, Command.wf x) ∧ a0.length ≤ maxLen) : ∃ n, F13 n a0 = some true := by
  refine ⟨100, ?_⟩
  unfold F13
  simp only [Option.bind_some, Bool.not_true, Bool.false_eq_true, if_false]
  by_cases g : (20 : Int) < (a0.length : Int)
  · rw [if_pos (by simpa using g)]
  rw [if_neg (by simpa using g)]
  exact rows_l11 100 (by omega) a0 (by omega) w.1 (100 + 8) 0 [] (by omega) (by omega) (by simp) (by simp) (by show (0 : Nat) ≤ _; omega)
end Go.Proofs.Ythmbegagkgdopaa
