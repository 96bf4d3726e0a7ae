/- Plain law: the law WheelCycles. -/
import Derived.Test.YtkjojcepombhpaaN2
import Derived.Test.YtkjojcepombhpaaL11
namespace Go.Proofs.Ytkjojcepombhpaa.L
set_option linter.unusedVariables false
set_option linter.unusedSimpArgs false
open Go.RowKit Go.Proofs.YtkjojcepombhpaaW.PrintWords Go.Proofs.YtkjojcepombhpaaW.PrintLast Go.Proofs.YtkjojcepombhpaaW.PrintMore

theorem pureCycles (a0 : Int) (t p : List Int) (n steps : Int) : ∃ k, remouldlaw06_WheelCycles.f k a0 t p n steps = some true := by
  apply Ev.get
  unfold remouldlaw06_WheelCycles.f
  refine Ev.bind (Ev.of (rule_f a0 t p)) ?_
  generalize t.take 7 = T
  generalize p.take 7 = P
  show Ev (fun k => ((wheel_Cycle.f a0 T P n steps).bind _)) true
  have hbad : Ev (fun k => remouldlaw06_WheelCycles.j0 k n steps ([] : List Int) 0 2 true a0 T P) true :=
    Ev.step (fun k => by rw [remouldlaw06_WheelCycles.j0, if_pos rfl, if_pos (by rfl), if_pos rfl, if_pos rfl]) awake_t
  cases hR : ruleB a0 T P
  · refine Ev.bind (Ev.of (show wheel_Cycle.f a0 T P n steps = some ([], 0, 2) by rw [wheel_Cycle.f, hR]; rfl)) (Ev.bind (Rule_f a0 T P) ?_)
    rw [hR]
    exact Ev.neg (by decide) hbad
  cases hn : smallB n
  · refine Ev.bind (Ev.of (show wheel_Cycle.f a0 T P n steps = some ([], 0, 2) by rw [wheel_Cycle.f, hR, hn]; rfl)) (Ev.bind (Rule_f a0 T P) ?_)
    rw [hR]
    refine Ev.pos rfl (Ev.bind (Ev.of (large_f n)) ?_)
    rw [hn]
    exact Ev.pos rfl hbad
  cases hs : inB steps 0 500
  · refine Ev.bind (Ev.of (show wheel_Cycle.f a0 T P n steps = some ([], 0, 2) by rw [wheel_Cycle.f, hR, hn, hs]; rfl)) (Ev.bind (Rule_f a0 T P) ?_)
    rw [hR]
    refine Ev.pos rfl (Ev.bind (Ev.of (large_f n)) ?_)
    rw [hn]
    refine Ev.neg (by decide) ?_
    have hs' : ¬ (0 ≤ steps ∧ steps ≤ 500) := by intro h; rw [show inB steps 0 500 = true by simp [inB, h.1, h.2]] at hs; cases hs
    by_cases h1 : steps < 0
    · exact Ev.pos h1 hbad
    · refine Ev.neg h1 ?_
      rw [decide_eq_true (by omega)]
      exact hbad
  have hs' : 0 ≤ steps ∧ steps ≤ 500 := by simpa [inB] using hs
  have hRI := ruleB_is hR
  have hl := cycGo_length a0 T P steps 503 [] n
  have hO := Cycle_f hRI n steps hn hs'
  refine Ev.bind (Ev.of (show wheel_Cycle.f a0 T P n steps = some (cycleW a0 T P n steps) by rw [wheel_Cycle.f, hR, hn, hs]; rfl)) (Ev.bind (Rule_f a0 T P) ?_)
  rw [hR]
  refine Ev.pos rfl (Ev.bind (Ev.of (large_f n)) ?_)
  rw [hn]
  refine Ev.neg (by decide) (Ev.neg (by omega) ?_)
  rw [decide_eq_false (by omega)]
  refine Ev.step (fun k => by rw [remouldlaw06_WheelCycles.j0, if_neg (by decide)]) (Ev.bind hO (Ev.bind (ints_f (cycleW a0 T P n steps).1 (cycleW a0 T P n steps).1 (by unfold cycleW; simp at hl; omega)) ?_))
  exact Ev.pos (by simp) (Ev.pos rfl (Ev.pos rfl awake_t))
end Go.Proofs.Ytkjojcepombhpaa.L
