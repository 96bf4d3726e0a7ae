/- Plain law: the whole cycles of a length. -/
import Derived.Test.YtkjojcepombhpaaN4
import Derived.Test.YtkjojcepombhpaaXWhole
namespace Go.Proofs.Ytkjojcepombhpaa.L
set_option linter.unusedVariables false
set_option linter.unusedSimpArgs false
open Go.RowKit Go.Proofs.YtkjojcepombhpaaW.PrintWords Go.Proofs.YtkjojcepombhpaaW.PrintLast Go.Proofs.YtkjojcepombhpaaW.PrintMore

variable {m : Int} {t p : List Int}
/-- The form of a course sends a number where its steps do. -/
theorem form_law (h : RuleIs m t p) (x : Int) : ∀ K : Nat, (formW m t p (remW m t p x K)).1 * x + (formW m t p (remW m t p x K)).2.1 = (formW m t p (remW m t p x K)).2.2 * iterW m t p K x := by
  intro K
  induction K with
  | zero => simp [remW, formW, iterW]
  | succ K ih =>
    rw [remW_succ, formW_snoc, iterW_succ]
    obtain ⟨⟨a, b, d⟩, hs⟩ : ∃ s, formW m t p (remW m t p x K) = s := ⟨_, rfl⟩
    rw [hs] at ih ⊢
    simp only [formStep] at ih ⊢
    obtain ⟨z, hz⟩ : ∃ z, iterW m t p K x = z := ⟨_, rfl⟩
    rw [hz] at ih ⊢
    have e : d * m * sentW m t p z = d * (rd t (z % m) * z + rd p (z % m)) := by rw [Int.mul_assoc, h.mul]
    rw [e, Int.mul_add]
    generalize rd t (z % m) = u
    generalize rd p (z % m) = v
    have e1 : a * u * x = u * (a * x) := by rw [Int.mul_comm a u, Int.mul_assoc]
    have e2 : d * (u * z) = u * (d * z) := by rw [← Int.mul_assoc, Int.mul_comm d u, Int.mul_assoc]
    rw [e1, e2, ← ih, Int.mul_add, Int.mul_comm v d, Int.mul_comm b u]
    omega
theorem fix_of {a b d y : Int} (hb : b = (d - a) * y) (hne : a ≠ d) : fixNum a b d = y ∧ fixDen a b d = 1 := by
  have hg : (Int.gcd b (d - a) : Int) = if d - a < 0 then -(d - a) else d - a := by
    have h1 : Int.gcd b (d - a) = (d - a).natAbs := by
      rw [hb, Int.gcd_comm]
      exact Int.gcd_mul_right_right _ _ |>.trans rfl
    rw [h1]
    split <;> omega
  unfold fixNum fixDen
  rw [hg]
  by_cases hn : d - a < 0
  · rw [if_pos hn, if_pos hn]
    refine ⟨?_, Int.ediv_self (by omega)⟩
    rw [hb, ← Int.neg_mul, Int.mul_ediv_cancel_left _ (by omega)]
  · rw [if_neg hn, if_neg hn]
    refine ⟨?_, Int.ediv_self (by omega)⟩
    rw [hb, Int.mul_ediv_cancel_left _ (by omega)]
end Go.Proofs.Ytkjojcepombhpaa.L
