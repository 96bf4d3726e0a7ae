/- Plain law: the law WheelRanges. -/
import Derived.Test.YtkjojcepombhpaaN0
import Derived.Test.YtkjojcepombhpaaL31
namespace Go.Proofs.Ytkjojcepombhpaa.L
set_option linter.unusedVariables false
set_option linter.unusedSimpArgs false
open Go.RowKit Go.Proofs.YtkjojcepombhpaaW.PrintWords Go.Proofs.YtkjojcepombhpaaW.PrintLast Go.Proofs.YtkjojcepombhpaaW.PrintMore

theorem ranges_l0 (l : List (List Int)) (hl : l.length ≤ 1000) (hr : ∀ r ∈ l, r.length ≤ 1000) : ∀ d i : Nat, i + d = l.length → Ev (fun k => remouldlaw06_WheelRanges.l0 k l l (i : Int)) true := by
  intro d
  induction d with
  | zero =>
    intro i hi
    refine Ev.step (fun k => by rw [remouldlaw06_WheelRanges.l0, if_neg (by omega)]) awake_t
  | succ d ih =>
    intro i hi
    have hrl : (rd_L1 l (i : Int)).length ≤ 1000000 := by
      have e : rd_L1 l (i : Int) = l[i]'(by omega) := by simp [rd_L1, show i < l.length by omega]
      rw [e]
      have := hr _ (List.getElem_mem (show i < l.length by omega))
      omega
    refine Ev.step (fun k => by rw [remouldlaw06_WheelRanges.l0, if_pos (by omega), if_pos (by omega), if_pos (by omega)]) (Ev.bind (ints_f _ _ hrl) ?_)
    refine Ev.pos (by simp) ?_
    rw [wrap64_id _ (by omega) (by omega)]
    exact ih (i + 1) (by omega)

theorem pureRanges (a0 : Int) (t p : List Int) (lo hi steps : Int) : ∃ k, remouldlaw06_WheelRanges.f k a0 t p lo hi steps = some true := by
  apply Ev.get
  unfold remouldlaw06_WheelRanges.f
  refine Ev.bind (Ev.of (rule_f a0 t p)) ?_
  generalize t.take 7 = T
  generalize p.take 7 = P
  show Ev (fun k => ((wheel_Cycles.f a0 T P lo hi steps).bind _)) true
  have hbad : Ev (fun k => remouldlaw06_WheelRanges.j0 k lo hi steps ([] : List (List Int)) 2 true a0 T P) true :=
    Ev.step (fun k => by rw [remouldlaw06_WheelRanges.j0, if_pos rfl, if_pos (by rfl), if_pos rfl]) awake_t
  cases hg : (ruleB a0 T P && (smallB lo && (smallB hi && (inB (wrap64 (hi - lo)) 0 500 && inB steps 0 500))))
  · refine Ev.bind (Ev.of (show wheel_Cycles.f a0 T P lo hi steps = some ([], 2) by rw [wheel_Cycles.f, hg]; rfl)) (Ev.bind (Rule_f a0 T P) ?_)
    cases hR : ruleB a0 T P
    · exact Ev.neg (by decide) hbad
    refine Ev.pos rfl (Ev.bind (Ev.of (large_f lo)) ?_)
    cases hn : smallB lo
    · exact Ev.pos rfl hbad
    refine Ev.neg (by decide) (Ev.bind (Ev.of (large_f hi)) ?_)
    cases hn2 : smallB hi
    · exact Ev.pos rfl hbad
    refine Ev.neg (by decide) ?_
    have h1 := (small_iff lo).1 hn
    have h2 := (small_iff hi).1 hn2
    rw [hR, hn, hn2, wrap64_id _ (by omega) (by omega)] at hg
    by_cases h3 : hi < lo
    · exact Ev.pos h3 hbad
    refine Ev.neg h3 ?_
    rw [wrap64_id _ (by omega) (by omega)]
    by_cases h4 : hi - lo > 500
    · exact Ev.pos h4 hbad
    refine Ev.neg h4 ?_
    by_cases h5 : steps < 0
    · exact Ev.pos h5 hbad
    refine Ev.neg h5 ?_
    have h6 : steps > 500 := by
      rw [show inB (hi - lo) 0 500 = true by simp [inB]; omega] at hg
      have : inB steps 0 500 = false := by simpa using hg
      simp [inB] at this
      omega
    rw [decide_eq_true h6]
    exact hbad
  · simp only [Bool.and_eq_true] at hg
    obtain ⟨hR, hn, hn2, hw, hs⟩ := hg
    have h1 := (small_iff lo).1 hn
    have h2 := (small_iff hi).1 hn2
    have hs' : 0 ≤ steps ∧ steps ≤ 500 := by simpa [inB] using hs
    have hw' : 0 ≤ hi - lo ∧ hi - lo ≤ 500 := by rw [wrap64_id _ (by omega) (by omega)] at hw; simpa [inB] using hw
    have hgood : (ruleB a0 T P && (smallB lo && (smallB hi && (inB (wrap64 (hi - lo)) 0 500 && inB steps 0 500)))) = true := by rw [hR, hn, hn2, hw, hs]; rfl
    refine Ev.bind (Ev.of (show wheel_Cycles.f a0 T P lo hi steps = some (cyclesW a0 T P lo hi steps, 0) by rw [wheel_Cycles.f, if_pos hgood])) (Ev.bind (Rule_f a0 T P) ?_)
    refine Ev.pos hR (Ev.bind (Ev.of (large_f lo)) ?_)
    rw [hn]
    refine Ev.neg (by decide) (Ev.bind (Ev.of (large_f hi)) ?_)
    rw [hn2]
    refine Ev.neg (by decide) (Ev.neg (by omega) ?_)
    rw [wrap64_id _ (by omega) (by omega)]
    refine Ev.neg (by omega) (Ev.neg (by omega) ?_)
    rw [decide_eq_false (by omega)]
    have hlen : (cyclesW a0 T P lo hi steps).length ≤ 1000 := by
      unfold cyclesW
      rw [(sortRows_perm _).length_eq]
      have := cycRows_length (m := a0) (t := T) (p := P) steps lo (hi - lo + 1).toNat
      omega
    have hrows : ∀ r ∈ cyclesW a0 T P lo hi steps, r.length ≤ 1000 := by
      intro r hr
      obtain ⟨i, _, e, h0⟩ := cycRows_row _ _ _ r ((sortRows_perm _).mem_iff.1 hr)
      have := (cycleW_row h0).2.1
      rw [e]
      omega
    refine Ev.step (fun k => by rw [remouldlaw06_WheelRanges.j0, if_neg (by decide)]) (Ev.bind (Ev.of (show remouldref06_Cycles.f a0 T P lo hi steps = some (cyclesW a0 T P lo hi steps) by rw [remouldref06_Cycles.f, if_pos hgood])) ?_)
    refine Ev.pos rfl ?_
    refine Ev.step (fun k => by rw [remouldlaw06_WheelRanges.j1, if_neg (show ¬ ((0 : Int) != 0) = true by decide)]) ?_
    exact ranges_l0 _ hlen hrows _ 0 (Nat.zero_add _)
end Go.Proofs.Ytkjojcepombhpaa.L
