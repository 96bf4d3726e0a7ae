/- Plain law: the law WheelWholeOf. -/
import Derived.Test.YtkjojcepombhpaaN6
import Derived.Test.YtkjojcepombhpaaN8
import Derived.Test.YtkjojcepombhpaaL32
namespace Go.Proofs.Ytkjojcepombhpaa.L
set_option linter.unusedVariables false
set_option linter.unusedSimpArgs false
open Go.RowKit Go.Proofs.YtkjojcepombhpaaW.PrintWords Go.Proofs.YtkjojcepombhpaaW.PrintLast Go.Proofs.YtkjojcepombhpaaW.PrintMore

/-- The first number of a cycle that is found is one of Whole's. -/
theorem isWhole_found {m : Int} {t p : List Int} {x steps : Int} {K : Nat} (h : (cycleW m t p x steps).2.2 = 0) (hl : (cycleW m t p x steps).1.length = K) : IsWhole m t p K (hd (cycleW m t p x steps).1) := by
  obtain ⟨cy, at', e⟩ : ∃ cy at', cycleW m t p x steps = (cy, at', 0) := ⟨(cycleW m t p x steps).1, (cycleW m t p x steps).2.1, by rw [← h]⟩
  rw [e] at hl ⊢
  obtain ⟨n, j, hf, rfl, hcy⟩ := cycleW_found e
  have hc := hf.cyc
  have hlt := hf.lt
  rw [orbTo_drop] at hcy
  obtain ⟨a, ha, _, hw, hm⟩ := written_orb hc
  rw [hw] at hcy
  have hl : cy.length = K := hl
  have h3 : n - j = K := by rw [← hl, hcy, orbTo_length]
  rw [h3] at hc hcy ha hw
  have e2 : hd cy = iterW m t p a (iterW m t p j x) := by rw [hcy]; exact orbTo_rd0 _ _ (by omega)
  show IsWhole m t p K (hd cy)
  rw [e2]
  refine ⟨hc.turn a, fun i => ?_⟩
  rw [← iterW_add (m := m) (t := t) (p := p) i a (iterW m t p j x)]
  exact hm (i + a)

theorem suc64 (i : Nat) (h : i ≤ 1000000) : wrap64 ((i : Int) + 1) = ((i + 1 : Nat) : Int) := by rw [wrap64_id _ (by omega) (by omega)]; rfl
section
variable {K : Int} {l : List Int} {L : List (List Int)}
theorem wo_l2 (hl : l.length ≤ 100000) (hL : L.length ≤ 1000) (r : Nat) (hr : r < L.length) (hne : 0 < (rd_L1 L (r : Int)).length) (hnext : Ev (fun k => remouldlaw06_WheelWholeOf.l1 k K l L ((r + 1 : Nat) : Int)) true) :
    ∀ d i : Nat, ∀ b : Bool, i + d = l.length → (b = true ∨ ∃ j, i ≤ j ∧ ∃ h : j < l.length, l[j] = rd (rd_L1 L (r : Int)) 0) → Ev (fun k => remouldlaw06_WheelWholeOf.l2 k K l L (r : Int) b (i : Int)) true := by
  intro d
  induction d with
  | zero =>
    intro i b hi hb
    rcases hb with rfl | ⟨j, h1, h2, _⟩
    · refine Ev.step (fun k => by rw [remouldlaw06_WheelWholeOf.l2, if_neg (by omega), if_pos rfl, suc64 _ (by omega)]) hnext
    · omega
  | succ d ih =>
    intro i b hi hb
    cases b with
    | true =>
      refine Ev.step (fun k => by rw [remouldlaw06_WheelWholeOf.l2, if_pos (by omega), if_pos rfl, suc64 _ (by omega)]) (ih (i + 1) true (by omega) (.inl rfl))
    | false =>
      refine Ev.step (fun k => by rw [remouldlaw06_WheelWholeOf.l2, if_pos (by omega), if_neg (by decide), if_pos (by omega), if_pos (by omega), if_pos (by omega), if_pos (by omega), suc64 _ (by omega)]) (ih (i + 1) _ (by omega) ?_)
      have hg : rd l (i : Int) = l[i] := by simp [rd, show i < l.length by omega]
      rcases hb with h | ⟨j, h1, h2, h3⟩
      · cases h
      · by_cases e : j = i
        · subst e
          left
          rw [hg, h3]
          simp
        · exact .inr ⟨j, by omega, h2, h3⟩
theorem wo_l1 (hl : l.length ≤ 100000) (hL : L.length ≤ 1000) (hrow : ∀ x ∈ L, 0 < x.length ∧ ((x.length : Int) = K → hd x ∈ l)) : ∀ d r : Nat, r + d = L.length → Ev (fun k => remouldlaw06_WheelWholeOf.l1 k K l L (r : Int)) true := by
  intro d
  induction d with
  | zero =>
    intro r hr
    exact Ev.step (fun k => by rw [remouldlaw06_WheelWholeOf.l1, if_neg (by omega)]) awake_t
  | succ d ih =>
    intro r hr
    have hg : rd_L1 L (r : Int) = L[r]'(by omega) := by simp [rd_L1, show r < L.length by omega]
    obtain ⟨h1, h2⟩ := hrow _ (List.getElem_mem (show r < L.length by omega))
    rw [← hg] at h1 h2
    by_cases hK : ((rd_L1 L (r : Int)).length : Int) = K
    · obtain ⟨j, hj, hj2⟩ := List.mem_iff_getElem.1 (h2 hK)
      refine Ev.step (fun k => by rw [remouldlaw06_WheelWholeOf.l1, if_pos (by omega), if_pos (by omega), if_pos hK]) ?_
      exact wo_l2 hl hL r (by omega) h1 (ih (r + 1) (by omega)) l.length 0 false (Nat.zero_add _) (.inr ⟨j, Nat.zero_le _, hj, hj2⟩)
    · refine Ev.step (fun k => by rw [remouldlaw06_WheelWholeOf.l1, if_pos (by omega), if_pos (by omega), if_neg hK, suc64 _ (by omega)]) (ih (r + 1) (by omega))
end
theorem wo_l0 {m : Int} {t p : List Int} (hR : RuleIs m t p) {K : Nat} (h0 : 0 < K) (h5 : K ≤ 5) {l : List Int} {L : List (List Int)} (hl : l.length ≤ 100000) (hw : ∀ y ∈ l, IsWhole m t p K y) (hnext : Ev (fun k => remouldlaw06_WheelWholeOf.l1 k K l L 0) true) :
    ∀ d i : Nat, i + d = l.length → Ev (fun k => remouldlaw06_WheelWholeOf.l0 k K l L (i : Int) m t p) true := by
  intro d
  induction d with
  | zero =>
    intro i hi
    exact Ev.step (fun k => by rw [remouldlaw06_WheelWholeOf.l0, if_neg (by omega)]) hnext
  | succ d ih =>
    intro i hi
    have hg : rd l (i : Int) = l[i]'(by omega) := by simp [rd, show i < l.length by omega]
    have hW := hw _ (List.getElem_mem (show i < l.length by omega))
    rw [← hg] at hW
    generalize hy : rd l (i : Int) = y at hW
    have hsm : smallB y = true := hW.1.small 0
    have hcy : wheel_Cycle.f m t p y K = some (orbTo m t p y K, 0, 0) := by
      rw [wheel_Cycle.f, ruleB_of hR, hsm, show inB (K : Int) 0 500 = true by simp [inB]; omega]
      rw [← whole_cycle hW (Int.le_refl _) (by omega)]
      rfl
    refine Ev.step (fun k => by rw [remouldlaw06_WheelWholeOf.l0, if_pos (by omega), if_pos (by omega), hy, hcy, Option.bind_some, if_pos rfl, if_pos rfl, if_pos (by rw [orbTo_length]), if_pos (by rw [orbTo_length]; omega), if_pos (orbTo_rd0 _ _ h0), suc64 _ (by omega)]) (ih (i + 1) (by omega))

theorem pureWholeOf : remouldlaw06_WheelWholeOf.Pure := by
  intro a0 l1 l2 a3 a4 _ _ _ _ _ _ _ _ _
  obtain ⟨m, T, P, ht, hR⟩ := tame_f a0 l1 l2
  apply Ev.get
  unfold remouldlaw06_WheelWholeOf.f
  refine Ev.bind ht ?_
  have hq := modW_in a3 5 (by decide)
  have hr := modW_in a4 2000 (by decide)
  refine Ev.bind (Ev.of (mod_f a3 5 (by decide) (by decide))) (Ev.bind (Ev.of (mod_f a4 2000 (by decide) (by decide))) ?_)
  generalize modW a3 5 = q at hq
  generalize modW a4 2000 = r at hr
  obtain ⟨K, hK⟩ : ∃ K : Nat, (K : Int) = 1 + q := ⟨(1 + q).toNat, by omega⟩
  rw [wrap64_id _ (by omega) (by omega), wrap64_id (r - 1000) (by omega) (by omega), wrap64_id (r - 1000 + 30) (by omega) (by omega), ← hK]
  have h0 : 0 < K := by omega
  have h5 : K ≤ 5 := by omega
  have hW : wheel_Whole.f m T P K = some (wholeL m T P K, 0) := by
    rw [wheel_Whole.f, ruleB_of hR, show inB (K : Int) 1 5 = true by simp [inB]; omega]
    rfl
  have hC : wheel_Cycles.f m T P (r - 1000) (r - 1000 + 30) 60 = some (cyclesW m T P (r - 1000) (r - 1000 + 30) 60, 0) := by
    rw [wheel_Cycles.f, ruleB_of hR, (small_iff (r - 1000)).2 (by omega), (small_iff (r - 1000 + 30)).2 (by omega), wrap64_id _ (by omega) (by omega), show inB (r - 1000 + 30 - (r - 1000)) 0 500 = true by simp [inB]; omega]
    rfl
  refine Ev.bind (Ev.of hW) (Ev.bind (Ev.of hC) (Ev.pos rfl ?_))
  have hlen : (cyclesW m T P (r - 1000) (r - 1000 + 30) 60).length ≤ 1000 := by
    unfold cyclesW
    rw [(sortRows_perm _).length_eq]
    have := cycRows_length (m := m) (t := T) (p := P) 60 (r - 1000) (r - 1000 + 30 - (r - 1000) + 1).toNat
    omega
  have hrows : ∀ x ∈ cyclesW m T P (r - 1000) (r - 1000 + 30) 60, 0 < x.length ∧ ((x.length : Int) = K → hd x ∈ wholeL m T P K) := by
    intro x hx
    obtain ⟨i, _, e, e0⟩ := cycRows_row _ _ _ x ((sortRows_perm _).mem_iff.1 hx)
    refine ⟨by rw [e]; exact (cycleW_row e0).1, fun hl => ?_⟩
    rw [wholeL_iff hR h0 h5, e]
    exact isWhole_found e0 (by rw [← e]; omega)
  have hll := wholeL_length hR (K := K) h5
  refine Ev.step (fun k => by rw [remouldlaw06_WheelWholeOf.j0, if_neg (show ¬ ((0 : Int) != 0) = true by decide)]) ?_
  exact wo_l0 hR h0 h5 (by omega) (fun y hy => (wholeL_iff hR h0 h5 y).1 hy) (wo_l1 (by omega) hlen hrows _ 0 (Nat.zero_add _)) _ 0 (Nat.zero_add _)
end Go.Proofs.Ytkjojcepombhpaa.L
