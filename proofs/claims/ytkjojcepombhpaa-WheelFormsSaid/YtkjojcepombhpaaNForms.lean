/- Plain law: the law WheelForms. -/
import Derived.Test.YtkjojcepombhpaaN3
import Derived.Test.YtkjojcepombhpaaL13
namespace Go.Proofs.Ytkjojcepombhpaa.L
set_option linter.unusedVariables false
set_option linter.unusedSimpArgs false
open Go.RowKit Go.Proofs.YtkjojcepombhpaaW.PrintWords Go.Proofs.YtkjojcepombhpaaW.PrintLast Go.Proofs.YtkjojcepombhpaaW.PrintMore

theorem pureForms (a0 : Int) (t p l : List Int) : ∃ k, remouldlaw06_WheelForms.f k a0 t p l = some true := by
  apply Ev.get
  unfold remouldlaw06_WheelForms.f
  refine Ev.bind (Ev.of (rule_f a0 t p)) (Ev.bind (Ev.of (list_f l)) ?_)
  have hl13 : (l.take 13).length ≤ 1000 := by rw [List.length_take]; omega
  generalize t.take 7 = T
  generalize p.take 7 = P
  generalize l.take 13 = L at hl13 ⊢
  show Ev (fun k => ((wheel_Start.f a0 T P L).bind _)) true
  have hbad : Ev (fun k => remouldlaw06_WheelForms.j0 k L 0 2 0 0 0 2 2 true a0 T P 0 0) true :=
    Ev.step (fun k => by rw [remouldlaw06_WheelForms.j0, if_pos rfl, if_pos rfl, if_pos rfl, if_pos rfl, if_pos rfl, if_pos rfl, if_pos rfl, if_pos (by decide), if_pos rfl]) awake_t
  cases hR : ruleB a0 T P
  · refine Ev.bind (Ev.of (show wheel_Start.f a0 T P L = some (0, 2) by rw [wheel_Start.f, hR]; rfl)) (Ev.bind (Ev.of (show wheel_Form.f a0 T P L = some (0, 0, 0, 2) by rw [wheel_Form.f, hR]; rfl)) (Ev.bind (Ev.of (show wheel_Fixed.f a0 T P L = some (0, 0, 2) by rw [wheel_Fixed.f, hR]; rfl)) (Ev.bind (Rule_f a0 T P) ?_)))
    rw [hR]
    exact Ev.neg (by decide) hbad
  cases hC : courseB a0 L
  · refine Ev.bind (Ev.of (show wheel_Start.f a0 T P L = some (0, 2) by rw [wheel_Start.f, hR, hC]; rfl)) (Ev.bind (Ev.of (show wheel_Form.f a0 T P L = some (0, 0, 0, 2) by rw [wheel_Form.f, hR, hC]; rfl)) (Ev.bind (Ev.of (show wheel_Fixed.f a0 T P L = some (0, 0, 2) by rw [wheel_Fixed.f, hR, hC]; rfl)) (Ev.bind (Rule_f a0 T P) ?_)))
    rw [hR]
    refine Ev.pos rfl (Ev.bind (Course_f a0 T P L hl13) ?_)
    rw [hC]
    exact hbad
  have hRI := ruleB_is hR
  obtain ⟨hci, hcl⟩ := course_is hC
  obtain ⟨⟨a, b, d⟩, hs⟩ : ∃ s, formW a0 T P L = s := ⟨_, rfl⟩
  have hF := Form_f hRI hci hcl
  have hX := Fixed_f hRI hci hcl
  have hS := Start_f hRI hci hcl
  rw [hs] at hF hX
  obtain ⟨st, hst⟩ : ∃ st, startW a0 T P L L.length = st := ⟨_, rfl⟩
  rw [hst] at hS
  obtain ⟨⟨fn, fd, fe⟩, hfx⟩ : ∃ r, (if a = d then ((0 : Int), (0 : Int), (6 : Int)) else (fixNum a b d, fixDen a b d, 0)) = r := ⟨_, rfl⟩
  refine Ev.bind (Ev.of (show wheel_Start.f a0 T P L = some (st, 0) by rw [wheel_Start.f, hR, hC, hst]; rfl)) (Ev.bind (Ev.of (show wheel_Form.f a0 T P L = some (a, b, d, 0) by rw [wheel_Form.f, hR, hC, hs]; rfl)) (Ev.bind (Ev.of (show wheel_Fixed.f a0 T P L = some (fn, fd, fe) by rw [wheel_Fixed.f, hR, hC, hs]; exact congrArg some hfx)) (Ev.bind (Rule_f a0 T P) ?_)))
  rw [hR]
  refine Ev.pos rfl (Ev.bind (Course_f a0 T P L hl13) ?_)
  rw [hC]
  refine Ev.step (fun k => by rw [remouldlaw06_WheelForms.j0, if_neg (by decide)]) (Ev.bind hF (Ev.bind hS ?_))
  refine Ev.pos rfl (Ev.pos rfl (Ev.pos rfl (Ev.pos rfl (Ev.pos rfl ?_))))
  refine Ev.step (fun k => by rw [remouldlaw06_WheelForms.j1, if_neg (show ¬ ((0 : Int) != 0) = true by decide)]) (Ev.bind hX ?_)
  unfold fixRes
  simp only
  by_cases e : a = d
  · rw [if_pos e] at hfx ⊢
    simp only [Prod.mk.injEq] at hfx
    obtain ⟨rfl, rfl, rfl⟩ := hfx
    exact Ev.neg (by decide) (Ev.pos (by decide) (Ev.pos rfl awake_t))
  · rw [if_neg e] at hfx ⊢
    simp only [Prod.mk.injEq] at hfx
    obtain ⟨rfl, rfl, rfl⟩ := hfx
    exact Ev.pos rfl (Ev.pos (by simp) (Ev.pos rfl awake_t))
end Go.Proofs.Ytkjojcepombhpaa.L
