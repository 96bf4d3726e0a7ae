/- Plain law: the law WheelShifted. -/
import Derived.Test.YtkjojcepombhpaaN10
import Derived.Test.YtkjojcepombhpaaN8
import Derived.Test.YtkjojcepombhpaaN7
import Derived.Test.YtkjojcepombhpaaL23
namespace Go.Proofs.Ytkjojcepombhpaa.L
set_option linter.unusedVariables false
set_option linter.unusedSimpArgs false
open Go.RowKit Go.Proofs.YtkjojcepombhpaaW.PrintWords Go.Proofs.YtkjojcepombhpaaW.PrintLast Go.Proofs.YtkjojcepombhpaaW.PrintMore

variable {m : Int} {t p : List Int}
/-- What Orbit hands back. -/
theorem orbit_list {x steps : Int} (h1 : 1 ≤ steps) (h5 : steps ≤ 500) {l : List Int} (ho : orbGo m t p steps 502 [] x = some l) : ∃ L : Nat, l = orbTo m t p x L ∧ 2 ≤ L ∧ (L : Int) ≤ steps + 1 ∧ ∀ i, i < L → smallB (iterW m t p i x) = true := by
  have he := ends (m := m) (t := t) (p := p) x steps (by omega) h5
  rw [ho] at he
  cases he with
  | full _ h => cases h
  | none _ h _ hs => exact ⟨_, Option.some.inj h, by omega, by omega, hs⟩
  | cycle N j hf _ h =>
    have h2 := hf.lt
    have h3 := hf.le
    refine ⟨N + 1, Option.some.inj h, by omega, by omega, fun i hi => ?_⟩
    by_cases e : i = N
    · rw [e, hf.back]; exact hf.small j h2
    · exact hf.small i (by omega)
theorem rd_orbTo (x : Int) (n i : Nat) (hi : i < n) : rd (orbTo m t p x n) (i : Int) = iterW m t p i x := by
  rw [rd, Int.toNat_natCast, List.getD_eq_getElem?_getD, orbTo_get x n i hi]
  rfl
theorem shifted_l0 (hR : RuleIs m t p) (n : Int) (K : Int) (hK : 0 ≤ K ∧ K ≤ 500) (y : Int) (hy : y = sentW m t p n) (L : Nat) (hL2 : 2 ≤ L) (hL : (L : Int) ≤ K + 1) (hs : ∀ i, i < L → smallB (iterW m t p i n) = true) :
    ∀ e i : Nat, i + 1 + e = L → Ev (fun k => remouldlaw06_WheelShifted.l0 k n K y (orbTo m t p n L) ((i + 1 : Nat) : Int) m t p) true := by
  have hlen := orbTo_length m t p n L
  intro e
  induction e with
  | zero =>
    intro i hi
    have e0 : rd (orbTo m t p n L) 0 = n := rd_orbTo n L 0 (by omega)
    have e1 : rd (orbTo m t p n L) 1 = y := by rw [hy]; exact rd_orbTo n L 1 (by omega)
    exact Ev.step (fun k => by rw [remouldlaw06_WheelShifted.l0, if_neg (by omega), wrap64_id (K + 1) (by omega) (by omega), if_pos (by omega), if_pos (by omega), if_pos (by omega), if_pos e0, if_pos (by omega), if_pos e1]) awake_t
  | succ e ih =>
    intro i hi
    have ih := ih (i + 1) (by omega)
    have e1 := rd_orbTo (m := m) (t := t) (p := p) n L i (by omega)
    have e2 := rd_orbTo (m := m) (t := t) (p := p) n L (i + 1) (by omega)
    have hS := wheel_Send_ok hR (hs i (by omega))
    rw [← iterW_succ, hs (i + 1) (by omega), if_pos rfl] at hS
    obtain ⟨j, hj⟩ : ∃ j : Int, ((i + 1 : Nat) : Int) = j := ⟨_, rfl⟩
    have e0 : wrap64 (j - 1) = (i : Int) := by rw [wrap64_id _ (by omega) (by omega)]; omega
    have ew : wrap64 (j + 1) = ((i + 1 + 1 : Nat) : Int) := by rw [wrap64_id _ (by omega) (by omega)]; omega
    rw [hj] at e2 ⊢
    generalize iterW m t p (i + 1) n = z at *
    have hi0 : (0 : Int) ≤ (i : Int) := by omega
    have hi1 : (i : Int) < ((orbTo m t p n L).length : Int) := by omega
    have hj0 : j < ((orbTo m t p n L).length : Int) := by omega
    have hj1 : (0 : Int) ≤ j := by omega
    refine Ev.step (fun k => by rw [remouldlaw06_WheelShifted.l0, if_pos hj0, e0, if_pos hi0, if_pos hi1, e1]) (Ev.bind (Ev.of hS) ?_)
    refine Ev.pos rfl (Ev.pos hj1 (Ev.pos e2.symm ?_))
    rw [ew]
    exact ih
theorem wheel_Orbit_ok (hR : RuleIs m t p) (n K : Int) (hn : smallB n = true) (hK : 0 ≤ K ∧ K ≤ 500) : wheel_Orbit.f m t p n K = some (match orbGo m t p K 502 [] n with | some l => (l, 0) | none => ([], 5)) := by
  unfold wheel_Orbit.f
  rw [ruleB_of hR, hn, show inB K 0 500 = true by simp [inB, hK.1, hK.2]]
  rfl
theorem pureShifted : remouldlaw06_WheelShifted.Pure := by
  intro a0 l1 l2 a3 a4 _ _ _ _ _ _ _ _ _
  apply Ev.get
  unfold remouldlaw06_WheelShifted.f
  obtain ⟨m, T, P, hT, hR⟩ := tame_f a0 l1 l2
  have hb := modW_in a3 1048576 (by decide)
  have hk := modW_in a4 30 (by decide)
  refine Ev.bind hT (Ev.bind (Ev.of (mod_f a3 1048576 (by decide) (by decide))) (Ev.bind (Ev.of (mod_f a4 30 (by decide) (by decide))) ?_))
  rw [wrap64_id (modW a3 1048576 - 524288) (by omega) (by omega), wrap64_id (1 + modW a4 30) (by omega) (by omega), wrap64_id (1 + modW a4 30 - 1) (by omega) (by omega)]
  obtain ⟨n, hn⟩ : ∃ n, modW a3 1048576 - 524288 = n := ⟨_, rfl⟩
  rw [hn]
  obtain ⟨K, hK⟩ : ∃ K : Nat, modW a4 30 = (K : Int) := ⟨(modW a4 30).toNat, by omega⟩
  rw [hK] at hk ⊢
  have eK : (1 : Int) + K = ((K + 1 : Nat) : Int) := by omega
  have eK2 : (1 : Int) + K - 1 = (K : Int) := by omega
  rw [eK2, eK]
  have hsn : smallB n = true := by simp [smallB, inB]; omega
  have hB := hR.bound (x := n) (B := 1048576) (by omega) (by omega)
  obtain ⟨y, hy⟩ : ∃ y, sentW m T P n = y := ⟨_, rfl⟩
  have hS := wheel_Send_ok hR hsn
  rw [hy] at hS hB
  have hsy : smallB y = true := by simp [smallB, inB]; omega
  rw [hsy, if_pos rfl] at hS
  have hC := wheel_Course_ok n ((K + 1 : Nat) : Int) hR hsn (by omega)
  have hD := wheel_Course_ok y (K : Int) hR hsy (by omega)
  rw [Int.toNat_natCast] at hC hD
  have hit : ∀ i, iterW m T P (i + 1) n = iterW m T P i y := fun i => by rw [← hy]; rfl
  cases ho : courseW m T P n (K + 1) with
  | none =>
    have ho2 : courseW m T P y K = none := by
      cases h2 : courseW m T P y K with
      | none => rfl
      | some l =>
        obtain ⟨_, hs⟩ := courseW_is h2
        rw [courseW_some (fun i hi => by
          cases i with
          | zero => exact hsn
          | succ i => rw [hit]; exact hs i (by omega))] at ho
        cases ho
    rw [ho] at hC
    rw [ho2] at hD
    refine Ev.bind (Ev.of hS) (Ev.bind (Ev.of hC) (Ev.pos rfl (Ev.bind (Ev.of hD) ?_)))
    exact Ev.neg (by decide) (Ev.pos rfl (Ev.pos rfl awake_t))
  | some l =>
    obtain ⟨hl, hs⟩ := courseW_is ho
    have ho2 : courseW m T P y K = some (remW m T P y K) := courseW_some (fun i hi => by rw [← hit]; exact hs (i + 1) (by omega))
    have hrem : remW m T P n (K + 1) = n % m :: remW m T P y K := by rw [remW_cons, hy]
    rw [ho] at hC
    rw [ho2] at hD
    subst hl
    rw [hrem] at hC
    have hlen := remW_length m T P y K
    have hj : Ev (fun k => remouldlaw06_WheelShifted.j0 k n ((K + 1 : Nat) : Int) y false m T P) true := by
      have hO := wheel_Orbit_ok hR n ((K + 1 : Nat) : Int) hsn (by omega)
      cases hog : orbGo m T P ((K + 1 : Nat) : Int) 502 [] n with
      | none =>
        rw [hog] at hO
        refine Ev.step (fun k => by rw [remouldlaw06_WheelShifted.j0, if_neg (show ¬ (false = true) by decide)]) (Ev.bind (Ev.of hO) ?_)
        exact Ev.neg (show ¬ ((5 : Int) = 0) by decide) (Ev.pos rfl awake_t)
      | some l =>
        rw [hog] at hO
        obtain ⟨L, rfl, h2, h3, h4⟩ := orbit_list (by omega) (by omega) hog
        have := shifted_l0 hR n ((K + 1 : Nat) : Int) (by omega) y hy.symm L h2 h3 h4 (L - 1) 0 (by omega)
        refine Ev.step (fun k => by rw [remouldlaw06_WheelShifted.j0, if_neg (show ¬ (false = true) by decide)]) (Ev.bind (Ev.of hO) ?_)
        exact Ev.pos rfl this
    refine Ev.bind (Ev.of hS) (Ev.bind (Ev.of hC) (Ev.pos rfl (Ev.bind (Ev.of hD) ?_)))
    refine Ev.pos rfl (Ev.pos rfl (Ev.pos (by simp [hlen]) (Ev.pos (by simp <;> omega) (Ev.bind (ints_f (remW m T P y K) (remW m T P y K) (by omega)) ?_))))
    refine Ev.pos (by simp) (Ev.pos (by simp <;> omega) (Ev.bind (Ev.of (Rest_f hR n)) ?_))
    have e : (rd (n % m :: remW m T P y K) 0 != n % m) = false := by simp [rd]
    dsimp only
    rw [e]
    exact hj
end Go.Proofs.Ytkjojcepombhpaa.L
