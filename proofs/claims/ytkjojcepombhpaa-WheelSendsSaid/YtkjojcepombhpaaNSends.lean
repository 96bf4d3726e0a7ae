/- Plain law: the law WheelSends. -/
import Derived.Test.YtkjojcepombhpaaN11
import Derived.Test.YtkjojcepombhpaaL28
namespace Go.Proofs.Ytkjojcepombhpaa.L
set_option linter.unusedVariables false
set_option linter.unusedSimpArgs false
open Go.RowKit Go.Proofs.YtkjojcepombhpaaW.PrintWords Go.Proofs.YtkjojcepombhpaaW.PrintLast Go.Proofs.YtkjojcepombhpaaW.PrintMore

theorem pureSends (a0 : Int) (t p : List Int) (n : Int) : ∃ k, remouldlaw06_WheelSends.f k a0 t p n = some true := by
  apply Ev.get
  unfold remouldlaw06_WheelSends.f
  refine Ev.bind (Ev.of (rule_f a0 t p)) ?_
  generalize t.take 7 = T
  generalize p.take 7 = P
  show Ev (fun k => ((wheel_Send.f a0 T P n).bind _)) true
  have hbad : Ev (fun k => remouldlaw06_WheelSends.j0 k n 0 2 ([] : List Int) 2 true a0 T P) true :=
    Ev.step (fun k => by rw [remouldlaw06_WheelSends.j0, if_pos rfl, if_pos rfl, if_pos rfl, if_pos (by rfl), if_pos rfl]) awake_t
  cases hR : ruleB a0 T P
  · refine Ev.bind (Ev.of (show wheel_Send.f a0 T P n = some (0, 2) by rw [wheel_Send.f, hR]; rfl)) (Ev.bind (Ev.of (show wheel_Back.f a0 T P n = some ([], 2) by rw [wheel_Back.f, hR]; rfl)) (Ev.bind (Rule_f a0 T P) ?_))
    rw [hR]
    exact Ev.neg (by decide) hbad
  cases hn : smallB n
  · refine Ev.bind (Ev.of (show wheel_Send.f a0 T P n = some (0, 2) by rw [wheel_Send.f, hR, hn]; rfl)) (Ev.bind (Ev.of (show wheel_Back.f a0 T P n = some ([], 2) by rw [wheel_Back.f, hR, hn]; rfl)) (Ev.bind (Rule_f a0 T P) ?_))
    rw [hR]
    refine Ev.pos rfl (Ev.bind (Ev.of (large_f n)) ?_)
    rw [hn]
    exact hbad
  have hRI := ruleB_is hR
  have hB := wheel_Back_ok hRI hn
  have hO := Back_f hRI n hn
  have hl := backW_length (m := a0) (t := T) (p := P) n
  have htl := hRI.tl
  have hm6 := hRI.m6
  unfold backRes at hO
  have hS : wheel_Send.f a0 T P n = some (if smallB (sentW a0 T P n) then (sentW a0 T P n, 0) else (0, 5)) := by
    unfold wheel_Send.f
    rw [hR, hn]
    rfl
  have hSr := Send_f hRI n (small_mid hn)
  -- the second half
  have hback : ∃ (l : List Int) (e : Int), wheel_Back.f a0 T P n = some (l, e) ∧ Ev (fun k => remouldlaw06_WheelSends.j1 k n l e a0 T P) true := by
    cases hany : (backW a0 T P n).any (fun n => !smallB n)
    · rw [hany, if_neg (by decide)] at hO hB
      refine ⟨_, _, hB, Ev.step (fun k => by rw [remouldlaw06_WheelSends.j1]) (Ev.bind hO (Ev.pos rfl (Ev.bind (ints_f (backW a0 T P n) (backW a0 T P n) (by omega)) ?_)))⟩
      exact Ev.pos (by simp) (Ev.pos rfl awake_t)
    · rw [hany, if_pos rfl] at hO hB
      refine ⟨_, _, hB, Ev.step (fun k => by rw [remouldlaw06_WheelSends.j1]) (Ev.bind hO ?_)⟩
      exact Ev.neg (by decide) (Ev.pos rfl (Ev.pos rfl awake_t))
  obtain ⟨l, e, hB2, hj1⟩ := hback
  cases hs : smallB (sentW a0 T P n)
  · rw [hs, if_neg (by decide)] at hS
    refine Ev.bind (Ev.of hS) (Ev.bind (Ev.of hB2) (Ev.bind (Rule_f a0 T P) ?_))
    rw [hR]
    refine Ev.pos rfl (Ev.bind (Ev.of (large_f n)) ?_)
    rw [hn]
    refine Ev.step (fun k => by rw [remouldlaw06_WheelSends.j0, if_neg (show ¬ ((!true) = true) by decide)]) (Ev.bind (Ev.of hSr) (Ev.bind (Ev.of (large_f _)) ?_))
    rw [hs]
    exact Ev.pos rfl (Ev.pos rfl (Ev.pos rfl hj1))
  · rw [hs, if_pos rfl] at hS
    refine Ev.bind (Ev.of hS) (Ev.bind (Ev.of hB2) (Ev.bind (Rule_f a0 T P) ?_))
    rw [hR]
    refine Ev.pos rfl (Ev.bind (Ev.of (large_f n)) ?_)
    rw [hn]
    refine Ev.step (fun k => by rw [remouldlaw06_WheelSends.j0, if_neg (show ¬ ((!true) = true) by decide)]) (Ev.bind (Ev.of hSr) (Ev.bind (Ev.of (large_f _)) ?_))
    rw [hs]
    exact Ev.neg (by decide) (Ev.bind (Ev.of hSr) (Ev.pos rfl (Ev.pos rfl hj1)))
end Go.Proofs.Ytkjojcepombhpaa.L
