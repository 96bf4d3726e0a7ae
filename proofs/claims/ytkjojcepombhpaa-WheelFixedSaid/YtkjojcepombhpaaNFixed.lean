/- Plain law: a number of Whole, its course, and what is said of this. -/
import Derived.Test.YtkjojcepombhpaaN6
import Derived.Test.YtkjojcepombhpaaN10
namespace Go.Proofs.Ytkjojcepombhpaa.L
set_option linter.unusedVariables false
set_option linter.unusedSimpArgs false
open Go.RowKit Go.Proofs.YtkjojcepombhpaaW.PrintWords Go.Proofs.YtkjojcepombhpaaW.PrintLast Go.Proofs.YtkjojcepombhpaaW.PrintMore

/-- What Course, Fixed, Start and Form say of a number of Whole. -/
structure FixP (m : Int) (t p : List Int) (kI y : Int) (c : List Int) (s a b d : Int) : Prop where
  cl : c.length ≤ 12
  co : wheel_Course.f m t p y kI = some (c, 0)
  fx : wheel_Fixed.f m t p c = some (y, 1, 0)
  st : wheel_Start.f m t p c = some (s, 0)
  fo : wheel_Form.f m t p c = some (a, b, d, 0)
  ys : -1099511627776 ≤ y ∧ y ≤ 1099511627776
  d1 : 1 ≤ d ∧ d ≤ 2176782336
  s0 : 0 ≤ s ∧ s < d
  md : Int.tmod (y - s) d = 0
variable {m : Int} {t p : List Int}
theorem fixP (hR : RuleIs m t p) {K : Nat} (h0 : 0 < K) (h5 : K ≤ 5) {y : Int} (h : IsWhole m t p K y) : ∃ c s a b d, FixP m t p (K : Int) y c s a b d := by
  have hc := remW_course hR y K
  have hl : (remW m t p y K).length = K := remW_length m t p y K
  have hcl : (remW m t p y K).length ≤ 12 := by omega
  have hsm : ∀ i, smallB (iterW m t p i y) = true := h.1.small
  obtain ⟨f1, f2, f3⟩ := whole_fix hR h0 h.1.back
  obtain ⟨s1, s2, s3⟩ := startW_spec hR hc (remW m t p y K).length (Nat.le_refl _)
  rw [List.take_length] at s1
  have hp := powW_small hR (remW m t p y K).length hcl
  have hd := (formW_parts hR (remW m t p y K)).2
  refine ⟨remW m t p y K, startW m t p (remW m t p y K) (remW m t p y K).length, (formW m t p (remW m t p y K)).1, (formW m t p (remW m t p y K)).2.1, (formW m t p (remW m t p y K)).2.2, hcl, ?_, ?_, wheel_Start_ok hR hc hcl, wheel_Form_ok hR hc hcl, (small_iff y).1 (hsm 0), by rw [hd]; exact hp, by rw [hd]; exact ⟨s2, s3⟩, ?_⟩
  · have := wheel_Course_ok (m := m) (t := t) (p := p) y (K : Int) hR (hsm 0) (by omega)
    rw [Int.toNat_natCast, courseW_some (fun i _ => hsm i)] at this
    exact this
  · rw [wheel_Fixed.f, ruleB_of hR, courseB_of hc hcl, if_pos (by rfl), if_neg f3, f1, f2]
  · have hdv := follows_apart hR (remW m t p y K) y _ ((follows_iff _ _).2 (by rw [hl])) s1
    rw [hd]
    exact Int.tmod_eq_zero_of_dvd hdv
end Go.Proofs.Ytkjojcepombhpaa.L
