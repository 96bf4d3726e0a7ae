/- Plain law: the law WheelCourses. -/
import Derived.Test.YtkjojcepombhpaaN9
import Derived.Test.YtkjojcepombhpaaL15
namespace Go.Proofs.Ytkjojcepombhpaa.L
set_option linter.unusedVariables false
set_option linter.unusedSimpArgs false
open Go.RowKit Go.Proofs.YtkjojcepombhpaaW.PrintWords Go.Proofs.YtkjojcepombhpaaW.PrintLast Go.Proofs.YtkjojcepombhpaaW.PrintMore

theorem pureCourses (a0 : Int) (t p : List Int) (n steps : Int) : ∃ k, remouldlaw06_WheelCourses.f k a0 t p n steps = some true := by
  apply Ev.get
  unfold remouldlaw06_WheelCourses.f
  refine Ev.bind (Ev.of (rule_f a0 t p)) ?_
  generalize t.take 7 = T
  generalize p.take 7 = P
  show Ev (fun k => ((wheel_Course.f a0 T P n steps).bind _)) true
  have hbad : Ev (fun k => remouldlaw06_WheelCourses.j0 k n steps ([] : List Int) 2 true a0 T P) true :=
    Ev.step (fun k => by rw [remouldlaw06_WheelCourses.j0, if_pos rfl, if_pos (by rfl), if_pos rfl]) awake_t
  cases hR : ruleB a0 T P
  · refine Ev.bind (Ev.of (show wheel_Course.f a0 T P n steps = some ([], 2) by rw [wheel_Course.f, hR]; rfl)) (Ev.bind (Rule_f a0 T P) ?_)
    rw [hR]
    exact Ev.neg (by decide) hbad
  cases hn : smallB n
  · refine Ev.bind (Ev.of (show wheel_Course.f a0 T P n steps = some ([], 2) by rw [wheel_Course.f, hR, hn]; rfl)) (Ev.bind (Rule_f a0 T P) ?_)
    rw [hR]
    refine Ev.pos rfl (Ev.bind (Ev.of (large_f n)) ?_)
    rw [hn]
    exact Ev.pos rfl hbad
  cases hs : inB steps 0 500
  · refine Ev.bind (Ev.of (show wheel_Course.f a0 T P n steps = some ([], 2) by rw [wheel_Course.f, hR, hn, hs]; rfl)) (Ev.bind (Rule_f a0 T P) ?_)
    rw [hR]
    refine Ev.pos rfl (Ev.bind (Ev.of (large_f n)) ?_)
    rw [hn]
    refine Ev.neg (by decide) ?_
    have hs' : ¬ (0 ≤ steps ∧ steps ≤ 500) := by intro h; rw [show inB steps 0 500 = true by simp [inB, h.1, h.2]] at hs; cases hs
    by_cases h1 : steps < 0
    · exact Ev.pos h1 hbad
    · refine Ev.neg h1 ?_
      rw [decide_eq_true (by omega)]
      exact hbad
  have hs' : 0 ≤ steps ∧ steps ≤ 500 := by simpa [inB] using hs
  have hRI := ruleB_is hR
  obtain ⟨K, rfl⟩ : ∃ K : Nat, steps = (K : Int) := ⟨steps.toNat, by omega⟩
  have hW := wheel_Course_ok n K hRI hn hs'
  rw [Int.toNat_natCast] at hW
  have hO := Rests_f hRI n K (by omega)
  have hend : ∀ (l : List Int) (e : Int), wheel_Course.f a0 T P n K = some (l, e) → Ev (fun k => (remouldref06_Rests.f k a0 T P n K).bind fun bt427 => (if bt427.2 = true then ((remouldlaw06_ints.f k l bt427.1).bind fun t431 => (if t431 = true then (if e = 0 then ((remouldlaw06_awake.f k).bind fun t432 => (some t432)) else (some false)) else (some false))) else (if (l.length : Int) = 0 then (if e = 5 then ((remouldlaw06_awake.f k).bind fun t433 => (some t433)) else (some false)) else (some false)))) true → Ev (fun k => (wheel_Course.f a0 T P n K).bind fun bt420 => ((remouldref06_Rule.f k a0 T P).bind fun t424 => (if t424 = true then ((remouldref06_Large.f n).bind fun t425 => (if t425 = true then (remouldlaw06_WheelCourses.j0 k n K bt420.1 bt420.2 true a0 T P) else (if (K : Int) < 0 then (remouldlaw06_WheelCourses.j0 k n K bt420.1 bt420.2 true a0 T P) else (remouldlaw06_WheelCourses.j0 k n K bt420.1 bt420.2 (decide ((K : Int) > 500)) a0 T P)))) else (remouldlaw06_WheelCourses.j0 k n K bt420.1 bt420.2 true a0 T P)))) true := by
    intro l e he hh
    refine Ev.bind (Ev.of he) (Ev.bind (Rule_f a0 T P) ?_)
    rw [hR]
    refine Ev.pos rfl (Ev.bind (Ev.of (large_f n)) ?_)
    rw [hn]
    refine Ev.neg (by decide) (Ev.neg (by omega) ?_)
    rw [decide_eq_false (by omega)]
    exact Ev.step (fun k => by rw [remouldlaw06_WheelCourses.j0, if_neg (by decide)]) hh
  cases ho : courseW a0 T P n K with
  | none =>
    rw [ho] at hO hW
    exact hend _ _ hW (Ev.bind hO (Ev.neg (by decide) (Ev.pos rfl (Ev.pos rfl awake_t))))
  | some l =>
    rw [ho] at hO hW
    have hl : l.length ≤ 1000000 := by rw [(courseW_is ho).1, remW_length]; omega
    refine hend _ _ hW (Ev.bind hO (Ev.pos rfl (Ev.bind (ints_f l l hl) ?_)))
    exact Ev.pos (by simp) (Ev.pos rfl awake_t)
end Go.Proofs.Ytkjojcepombhpaa.L
