/- Plain law: the law WheelTerras. -/
import Derived.Test.YtkjojcepombhpaaN9
import Derived.Test.YtkjojcepombhpaaN8
import Derived.Test.YtkjojcepombhpaaL17
namespace Go.Proofs.Ytkjojcepombhpaa.L
set_option linter.unusedVariables false
set_option linter.unusedSimpArgs false
open Go.RowKit Go.Proofs.YtkjojcepombhpaaW.PrintWords Go.Proofs.YtkjojcepombhpaaW.PrintLast Go.Proofs.YtkjojcepombhpaaW.PrintMore

variable {m : Int} {t p : List Int}
theorem courseB_of {l : List Int} (hc : CourseIs m l) (hl : l.length ≤ 12) : courseB m l = true := by
  unfold courseB
  rw [decide_eq_true hl, Bool.true_and, List.all_eq_true]
  intro x hx
  have := hc x hx
  simp [inCourse, inB]
  omega
theorem wheel_Start_ok (hR : RuleIs m t p) {l : List Int} (hc : CourseIs m l) (hl : l.length ≤ 12) : wheel_Start.f m t p l = some (startW m t p l l.length, 0) := by
  unfold wheel_Start.f
  rw [ruleB_of hR, courseB_of hc hl]
  rfl
theorem wheel_Form_ok (hR : RuleIs m t p) {l : List Int} (hc : CourseIs m l) (hl : l.length ≤ 12) : wheel_Form.f m t p l = some ((formW m t p l).1, (formW m t p l).2.1, (formW m t p l).2.2, 0) := by
  unfold wheel_Form.f
  rw [ruleB_of hR, courseB_of hc hl]
  rfl
/-- A number has a course just if it has Start's remainder. -/
theorem terras (hR : RuleIs m t p) {l : List Int} (hc : CourseIs m l) (n : Int) : remW m t p n l.length = l ↔ n % powW m l.length = startW m t p l l.length := by
  obtain ⟨s1, s2, s3⟩ := startW_spec hR hc l.length (Nat.le_refl _)
  rw [List.take_length] at s1
  have hp := powW_pos hR l.length
  rw [← follows_iff]
  constructor
  · intro h
    have hd := follows_apart hR l n _ h s1
    have := (Int.emod_emod_of_dvd (n - startW m t p l l.length) (Int.dvd_refl (powW m l.length)))
    have e := Int.emod_eq_emod_iff_emod_sub_eq_zero.2 (Int.emod_eq_zero_of_dvd hd)
    rw [e, Int.emod_eq_of_lt s2 s3]
  · intro h
    have e : n = startW m t p l l.length + powW m l.length * (n / powW m l.length) := by
      have := Int.emod_add_mul_ediv n (powW m l.length)
      rw [h] at this
      exact this.symm
    rw [e]
    exact (follows_shift hR l _ _ s1).1
theorem pureTerras : remouldlaw06_WheelTerras.Pure := by
  intro a0 l1 l2 l3 a4 _ _ _ _ _ _ _ _ _ _ _
  apply Ev.get
  unfold remouldlaw06_WheelTerras.f
  obtain ⟨m, T, P, hT, hR⟩ := tame_f a0 l1 l2
  obtain ⟨c, hc1, hc, hl⟩ := course_f hR.m2 hR.m6 l3
  obtain ⟨s1, s2, s3⟩ := startW_spec hR hc c.length (Nat.le_refl _)
  have hp := powW_small hR c.length hl
  have hfd := (formW_parts hR c).2
  refine Ev.bind hT (Ev.bind hc1 (Ev.bind (Ev.of (wheel_Start_ok hR hc hl)) (Ev.bind (Ev.of (wheel_Form_ok hR hc hl)) ?_)))
  have hter := terras hR hc
  dsimp only
  rw [hfd]
  generalize startW m T P c c.length = s at *
  generalize hd : powW m c.length = d at *
  refine Ev.pos rfl (Ev.pos rfl (Ev.neg (by omega) (Ev.neg (by omega) (Ev.neg (by omega) ?_))))
  rw [decide_eq_false (by omega)]
  have hsm : smallB s = true := by simp [smallB, inB]; omega
  have hCs := wheel_Course_ok s (c.length : Int) hR hsm (by omega)
  rw [Int.toNat_natCast] at hCs
  -- the second half
  have hend : Ev (fun k => remouldlaw06_WheelTerras.j1 k a4 c s d false m T P) true := by
    have hb := modW_in a4 1073741824 (by decide)
    refine Ev.step (fun k => by rw [remouldlaw06_WheelTerras.j1, if_neg (by decide)]) (Ev.bind (Ev.of (mod_f a4 1073741824 (by decide) (by decide))) ?_)
    generalize modW a4 1073741824 = n at *
    have hsn : smallB n = true := by simp [smallB, inB]; omega
    have hCn := wheel_Course_ok n (c.length : Int) hR hsn (by omega)
    rw [Int.toNat_natCast] at hCn
    cases ho : courseW m T P n c.length with
    | none =>
      rw [ho] at hCn
      exact Ev.bind (Ev.of hCn) (Ev.neg (by decide) (Ev.pos rfl awake_t))
    | some l =>
      rw [ho] at hCn
      have hlr := (courseW_is ho).1
      have hll : l.length ≤ 1000000 := by rw [hlr, remW_length]; omega
      refine Ev.bind (Ev.of hCn) (Ev.pos rfl (Ev.bind (ints_f l c hll) (Ev.neg (by omega) (Ev.pos ?_ awake_t))))
      rw [Int.tmod_eq_emod_of_nonneg hb.1, beq_iff_eq, hlr]
      have := hter n
      by_cases h : n % d = s
      · rw [h, decide_eq_true (this.2 h)]; simp
      · rw [decide_eq_false (fun e => h (this.1 e))]
        symm
        simpa using h
  cases ho : courseW m T P s c.length with
  | none =>
    rw [ho] at hCs
    refine Ev.step (fun k => by rw [remouldlaw06_WheelTerras.j0, if_neg (show ¬ (false = true) by decide)]) (Ev.bind (Ev.of hCs) ?_)
    exact Ev.neg (by decide) (Ev.pos rfl hend)
  | some l =>
    rw [ho] at hCs
    have hlr := (courseW_is ho).1
    have hll : l.length ≤ 1000000 := by rw [hlr, remW_length]; omega
    have hlc : l = c := by rw [hlr]; exact (hter s).2 (Int.emod_eq_of_lt s2 s3)
    subst hlc
    have hh : Ev (fun k => (remouldlaw06_ints.f k l l).bind fun t483 => (remouldlaw06_WheelTerras.j1 k a4 l s d (!t483) m T P)) true := by
      refine Ev.bind (ints_f l l hll) ?_
      rw [decide_eq_true rfl]
      exact hend
    exact Ev.step (fun k => by rw [remouldlaw06_WheelTerras.j0, if_neg (show ¬ (false = true) by decide)]) (Ev.bind (Ev.of hCs) (Ev.pos rfl hh))
end Go.Proofs.Ytkjojcepombhpaa.L
