/-
  Geom: what the table of functions tells is what the program does; rectangles and points out of arguments. No condition.
-/
import Derived.Test.YtdnfamkokhgdbaaGA
import Derived.Test.YtdnfamkokhgdbaaChecked
import Derived.Test.YtdnfamkokhgdbaaRxQ
import Derived.OpenShut
import Derived.Lib.SmallJoins
namespace Go.Proofs.Ytdnfamkokhgdbaa
open Go Go.Rx Go.ChangeShapes Go.WideShapes Go.ChangeAt Go.RowKit Go.Joins
set_option maxRecDepth 100000
theorem D_meets : Meets Try.prog D := by
  refine all_meets Try.checked.mixed (Meets.none _) ?_
  intro f pf h
  unfold tblG at h
  split at h <;> first | (cases h; done) | skip
  · obtain rfl := Option.some.inj h; exact ⟨_, kr7, Try.func7, pc7_ok⟩
  · obtain rfl := Option.some.inj h; exact ⟨_, kr8, Try.func8, pc8_ok⟩
  · obtain rfl := Option.some.inj h; exact ⟨_, kr9, Try.func9, pc9_ok⟩
  · obtain rfl := Option.some.inj h; exact ⟨_, kr10, Try.func10, pc10_ok⟩
  · obtain rfl := Option.some.inj h; exact ⟨_, kr19, Try.func19, pc19_ok⟩
  · obtain rfl := Option.some.inj h; exact ⟨_, kr20, Try.func20, pc20_ok⟩
  · obtain rfl := Option.some.inj h; exact ⟨_, kr21, Try.func21, pc21_ok⟩
  · obtain rfl := Option.some.inj h; exact ⟨_, kr23, Try.func23, pc23_ok⟩
  · obtain rfl := Option.some.inj h; exact ⟨_, kr25, Try.func25, pc25_ok⟩
  · obtain rfl := Option.some.inj h; exact ⟨_, kr27, Try.func27, pc27_ok⟩
  · obtain rfl := Option.some.inj h; exact ⟨_, kr29, Try.func29, pc29_ok⟩
  · obtain rfl := Option.some.inj h; exact ⟨_, kr31, Try.func31, pc31_ok⟩
  · obtain rfl := Option.some.inj h; exact ⟨_, kr33, Try.func33, pc33_ok⟩
  · obtain rfl := Option.some.inj h; exact ⟨_, kr35, Try.func35, pc35_ok⟩
  · obtain rfl := Option.some.inj h; exact ⟨_, kr39, Try.func39, pc39_ok⟩
  · obtain rfl := Option.some.inj h; exact ⟨_, kr40, Try.func40, pc40_ok⟩

section
variable {H : Type} {enc : TypeId × Value → H} {w : World} {base : Nat} {spare : Nat → Bool} {held : Bool}
theorem open_st35 {r : Reach} {b0 : Nat} {v : Value} {d : DataW H} {p : List MemPlace} (hv : Value.okWide Try.prog w r b0 35 v) (h : DataW.Trod enc Try.prog w base spare held 35 v d p) :
    ∃ a0 a1 a2 a3 : Int, v = .agg #[.int .i64 a0, .int .i64 a1, .int .i64 a2, .int .i64 a3] ∧ d = .agg [.lit (.int .i64 a0), .lit (.int .i64 a1), .lit (.int .i64 a2), .lit (.int .i64 a3)] ∧ p = [] ∧ (Lit.int .i64 a0).wf = true ∧ (Lit.int .i64 a1).wf = true ∧ (Lit.int .i64 a2).wf = true ∧ (Lit.int .i64 a3).wf = true := by
  obtain ⟨v0, v1, v2, v3, y0, y1, y2, y3, n, rfl, rfl, rfl, h0, h1, h2, h3⟩ := open_agg4 Try.underlying35 (by kernel_rfl) (by kernel_rfl) hv h
  obtain ⟨a0, e0, f0, g0⟩ := DataW.trod_int Try.underlying3 h0
  simp only [List.cons.injEq, and_true] at e0
  subst e0
  subst f0
  obtain ⟨a1, e1, f1, g1⟩ := DataW.trod_int Try.underlying3 h1
  simp only [List.cons.injEq, and_true] at e1
  subst e1
  subst f1
  obtain ⟨a2, e2, f2, g2⟩ := DataW.trod_int Try.underlying3 h2
  simp only [List.cons.injEq, and_true] at e2
  subst e2
  subst f2
  obtain ⟨a3, e3, f3, g3⟩ := DataW.trod_int Try.underlying3 h3
  simp only [List.cons.injEq, and_true] at e3
  subst e3
  subst f3
  exact ⟨a0, a1, a2, a3, rfl, rfl, by simp, g0, g1, g2, g3⟩
theorem shut_st35 {a0 a1 a2 a3 : Int} (w0 : (Lit.int .i64 a0).wf = true) (w1 : (Lit.int .i64 a1).wf = true) (w2 : (Lit.int .i64 a2).wf = true) (w3 : (Lit.int .i64 a3).wf = true) : DataW.Trod enc Try.prog w base spare held 35 (.agg #[.int .i64 a0, .int .i64 a1, .int .i64 a2, .int .i64 a3]) (.agg [.lit (.int .i64 a0), .lit (.int .i64 a1), .lit (.int .i64 a2), .lit (.int .i64 a3)]) [] := by
  have h := shut_agg4 (enc := enc) (w := w) (base := base) (spare := spare) (held := held) Try.underlying35 (by kernel_rfl) (by kernel_rfl) (y0 := (.lit (.int .i64 a0), [])) (v0 := .int .i64 a0) (y1 := (.lit (.int .i64 a1), [])) (v1 := .int .i64 a1) (y2 := (.lit (.int .i64 a2), [])) (v2 := .int .i64 a2) (y3 := (.lit (.int .i64 a3), [])) (v3 := .int .i64 a3) ⟨1, by simp [DataW.trod, Try.underlying3, w0]⟩ ⟨1, by simp [DataW.trod, Try.underlying3, w1]⟩ ⟨1, by simp [DataW.trod, Try.underlying3, w2]⟩ ⟨1, by simp [DataW.trod, Try.underlying3, w3]⟩
  exact h
end

section
variable {H : Type} {enc : TypeId × Value → H} {w : World} {base : Nat} {spare : Nat → Bool} {held : Bool}
theorem open_st37 {r : Reach} {b0 : Nat} {v : Value} {d : DataW H} {p : List MemPlace} (hv : Value.okWide Try.prog w r b0 37 v) (h : DataW.Trod enc Try.prog w base spare held 37 v d p) :
    ∃ a0 a1 : Int, v = .agg #[.int .i64 a0, .int .i64 a1] ∧ d = .agg [.lit (.int .i64 a0), .lit (.int .i64 a1)] ∧ p = [] ∧ (Lit.int .i64 a0).wf = true ∧ (Lit.int .i64 a1).wf = true := by
  obtain ⟨v0, v1, y0, y1, n, rfl, rfl, rfl, h0, h1⟩ := open_agg2 Try.underlying37 (by kernel_rfl) (by kernel_rfl) hv h
  obtain ⟨a0, e0, f0, g0⟩ := DataW.trod_int Try.underlying3 h0
  simp only [List.cons.injEq, and_true] at e0
  subst e0
  subst f0
  obtain ⟨a1, e1, f1, g1⟩ := DataW.trod_int Try.underlying3 h1
  simp only [List.cons.injEq, and_true] at e1
  subst e1
  subst f1
  exact ⟨a0, a1, rfl, rfl, by simp, g0, g1⟩
theorem shut_st37 {a0 a1 : Int} (w0 : (Lit.int .i64 a0).wf = true) (w1 : (Lit.int .i64 a1).wf = true) : DataW.Trod enc Try.prog w base spare held 37 (.agg #[.int .i64 a0, .int .i64 a1]) (.agg [.lit (.int .i64 a0), .lit (.int .i64 a1)]) [] := by
  have h := shut_agg2 (enc := enc) (w := w) (base := base) (spare := spare) (held := held) Try.underlying37 (by kernel_rfl) (by kernel_rfl) (y0 := (.lit (.int .i64 a0), [])) (v0 := .int .i64 a0) (y1 := (.lit (.int .i64 a1), [])) (v1 := .int .i64 a1) ⟨1, by simp [DataW.trod, Try.underlying3, w0]⟩ ⟨1, by simp [DataW.trod, Try.underlying3, w1]⟩
  exact h
end
end Go.Proofs.Ytdnfamkokhgdbaa
