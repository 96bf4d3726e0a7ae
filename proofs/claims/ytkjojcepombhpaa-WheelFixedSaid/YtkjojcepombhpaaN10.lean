/- Plain law: what Send, Course, Start, Form, Orbit hand back where their arguments are in order. -/
import Derived.Test.YtkjojcepombhpaaN9
namespace Go.Proofs.Ytkjojcepombhpaa.L
set_option linter.unusedVariables false
set_option linter.unusedSimpArgs false
open Go.RowKit Go.Proofs.YtkjojcepombhpaaW.PrintWords Go.Proofs.YtkjojcepombhpaaW.PrintLast Go.Proofs.YtkjojcepombhpaaW.PrintMore

variable {m : Int} {t p : List Int}
theorem courseB_of {l : List Int} (hc : CourseIs m l) (hl : l.length ≤ 12) : courseB m l = true := by
  unfold courseB
  rw [decide_eq_true hl, Bool.true_and, List.all_eq_true]
  intro x hx
  have := hc x hx
  simp [inCourse, inB]
  omega
theorem wheel_Start_ok (hR : RuleIs m t p) {l : List Int} (hc : CourseIs m l) (hl : l.length ≤ 12) : wheel_Start.f m t p l = some (startW m t p l l.length, 0) := by
  unfold wheel_Start.f
  rw [ruleB_of hR, courseB_of hc hl]
  rfl
theorem wheel_Form_ok (hR : RuleIs m t p) {l : List Int} (hc : CourseIs m l) (hl : l.length ≤ 12) : wheel_Form.f m t p l = some ((formW m t p l).1, (formW m t p l).2.1, (formW m t p l).2.2, 0) := by
  unfold wheel_Form.f
  rw [ruleB_of hR, courseB_of hc hl]
  rfl
theorem wheel_Send_ok (hR : RuleIs m t p) {n : Int} (hn : smallB n = true) : wheel_Send.f m t p n = some (if smallB (sentW m t p n) then (sentW m t p n, 0) else (0, 5)) := by
  unfold wheel_Send.f
  rw [ruleB_of hR, hn]
  rfl
end Go.Proofs.Ytkjojcepombhpaa.L
