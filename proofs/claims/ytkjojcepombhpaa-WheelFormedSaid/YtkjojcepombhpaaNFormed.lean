/- Plain law: the law WheelFormed. -/
import Derived.Test.YtkjojcepombhpaaN10
import Derived.Test.YtkjojcepombhpaaN8
import Derived.Test.YtkjojcepombhpaaL22
namespace Go.Proofs.Ytkjojcepombhpaa.L
set_option linter.unusedVariables false
set_option linter.unusedSimpArgs false
open Go.RowKit Go.Proofs.YtkjojcepombhpaaW.PrintWords Go.Proofs.YtkjojcepombhpaaW.PrintLast Go.Proofs.YtkjojcepombhpaaW.PrintMore

variable {m : Int} {t p : List Int}
/-- The form of a course sends a number where its steps do. -/
theorem form_law' (h : RuleIs m t p) (x : Int) : ∀ K : Nat, (formW m t p (remW m t p x K)).1 * x + (formW m t p (remW m t p x K)).2.1 = (formW m t p (remW m t p x K)).2.2 * iterW m t p K x := by
  intro K
  induction K with
  | zero => simp [remW, formW, iterW]
  | succ K ih =>
    rw [remW_succ, formW_snoc, iterW_succ]
    obtain ⟨⟨a, b, d⟩, hs⟩ : ∃ s, formW m t p (remW m t p x K) = s := ⟨_, rfl⟩
    rw [hs] at ih ⊢
    simp only [formStep] at ih ⊢
    obtain ⟨z, hz⟩ : ∃ z, iterW m t p K x = z := ⟨_, rfl⟩
    rw [hz] at ih ⊢
    have e : d * m * sentW m t p z = d * (rd t (z % m) * z + rd p (z % m)) := by rw [Int.mul_assoc, h.mul]
    rw [e, Int.mul_add]
    generalize rd t (z % m) = u
    generalize rd p (z % m) = v
    have e1 : a * u * x = u * (a * x) := by rw [Int.mul_comm a u, Int.mul_assoc]
    have e2 : d * (u * z) = u * (d * z) := by rw [← Int.mul_assoc, Int.mul_comm d u, Int.mul_assoc]
    rw [e1, e2, ← ih, Int.mul_add, Int.mul_comm v d, Int.mul_comm b u]
    omega
theorem formed_l0 (hR : RuleIs m t p) (n : Int) (K : Nat) (hK : K ≤ 6) (hs : ∀ i, i < K → smallB (iterW m t p i n) = true) (hn : smallB n = true) (a b d : Int) (hf : formW m t p (remW m t p n K) = (a, b, d)) :
    ∀ e i : Nat, i + e = K → smallB (iterW m t p i n) = true → Ev (fun k => remouldlaw06_WheelFormed.l0 k (iterW m t p i n) K (remW m t p n K) a b d (i : Int) m t p) true := by
  have hF := formIn hR (remW_course hR n K)
  rw [remW_length, hf] at hF
  have h20 := pow20_le hK
  have e20 : (20 : Int) ^ 6 = 64000000 := by decide
  have h6 := pow6_le hK
  have e6 : (6 : Int) ^ 6 = 46656 := by decide
  have hp6 := pow6_pos K
  have a1 := hF.a1
  have a2 := hF.a2
  have b1 := hF.b1
  have b2 := hF.b2
  have d1 := hF.d1
  have d2 := hF.d2
  simp only at a1 a2 b1 b2 d1 d2
  have hlen := remW_length m t p n K
  have hn' := (small_iff n).1 hn
  have hlaw := form_law' hR n K
  rw [hf] at hlaw
  simp only at hlaw
  intro e
  induction e with
  | zero =>
    intro i hi hsi
    obtain rfl : i = K := by omega
    have hz := (small_iff _).1 hsi
    have b3 : -(1099511627776 * 46656) ≤ d * iterW m t p i n ∧ d * iterW m t p i n ≤ 1099511627776 * 46656 := by
      generalize iterW m t p i n = z at *
      refine ⟨?_, ?_⟩
      · have h1 := Int.mul_le_mul_of_nonneg_left hz.1 (show 0 ≤ d by omega)
        have h2 := Int.mul_le_mul_of_nonneg_right (show d ≤ 46656 by omega) (show (0 : Int) ≤ 1099511627776 by decide)
        have e : d * -1099511627776 = -(d * 1099511627776) := Int.mul_neg ..
        omega
      · have h1 := Int.mul_le_mul_of_nonneg_left hz.2 (show 0 ≤ d by omega)
        have h2 := Int.mul_le_mul_of_nonneg_right (show d ≤ 46656 by omega) (show (0 : Int) ≤ 1099511627776 by decide)
        omega
    have ev : wrap64 (wrap64 (d * iterW m t p i n) - b) = a * n := by rw [wrap64_id (d * iterW m t p i n) (by omega) (by omega), wrap64_id _ (by omega) (by omega)]; omega
    have hq : Int.tdiv (a * n) a = n := Int.mul_tdiv_cancel_left n (by omega)
    have hW := wheel_Course_ok n i hR hn (by omega)
    rw [Int.toNat_natCast, courseW_some hs] at hW
    refine Ev.step (fun k => by rw [remouldlaw06_WheelFormed.l0, if_neg (by omega), if_neg (by omega), ev, if_pos (Int.tmod_eq_zero_of_dvd (Int.dvd_mul_right a n)), hq, wrap64_id n (by omega) (by omega)]) (Ev.bind (Ev.of hW) ?_)
    refine Ev.pos rfl (Ev.bind (ints_f (remW m t p n i) (remW m t p n i) (by omega)) ?_)
    exact Ev.pos (by simp) awake_t
  | succ e ih =>
    intro i hi hsi
    have hS := wheel_Send_ok hR hsi
    rw [← iterW_succ] at hS
    cases h7 : smallB (iterW m t p (i + 1) n)
    · rw [h7, if_neg (by decide)] at hS
      refine Ev.step (fun k => by rw [remouldlaw06_WheelFormed.l0, if_pos (by omega)]) (Ev.bind (Ev.of hS) ?_)
      exact Ev.neg (by decide) (Ev.pos rfl awake_t)
    · rw [h7, if_pos rfl] at hS
      have ih := ih (i + 1) (by omega) h7
      have ew : wrap64 ((i : Int) + 1) = ((i + 1 : Nat) : Int) := by rw [wrap64_id _ (by omega) (by omega)]; rfl
      have next : Ev (fun k => remouldlaw06_WheelFormed.l0 k (iterW m t p (i + 1) n) K (remW m t p n K) a b d (wrap64 ((i : Int) + 1)) m t p) true := by rw [ew]; exact ih
      refine Ev.step (fun k => by rw [remouldlaw06_WheelFormed.l0, if_pos (by omega)]) (Ev.bind (Ev.of hS) ?_)
      refine Ev.pos rfl ?_
      by_cases h0 : i = 0
      · subst h0
        refine Ev.pos rfl (Ev.pos (by omega) (Ev.pos (by omega) (Ev.bind (Ev.of (Rest_f hR _)) (Ev.pos ?_ next))))
        obtain ⟨K', rfl⟩ : ∃ K', K = K' + 1 := ⟨K - 1, by omega⟩
        rw [remW_cons]
        show rd (n % m :: _) 0 = n % m
        simp [rd]
      · refine Ev.neg (show ¬ ((i : Int) = 0) by simpa using h0) ?_
        exact next
theorem pureFormed : remouldlaw06_WheelFormed.Pure := by
  intro a0 l1 l2 a3 a4 _ _ _ _ _ _ _ _ _
  apply Ev.get
  unfold remouldlaw06_WheelFormed.f
  obtain ⟨m, T, P, hT, hR⟩ := tame_f a0 l1 l2
  have hb := modW_in a3 1048576 (by decide)
  have hk := modW_in a4 7 (by decide)
  refine Ev.bind hT (Ev.bind (Ev.of (mod_f a3 1048576 (by decide) (by decide))) (Ev.bind (Ev.of (mod_f a4 7 (by decide) (by decide))) ?_))
  rw [wrap64_id _ (by omega) (by omega)]
  obtain ⟨n, hn⟩ : ∃ n, modW a3 1048576 - 524288 = n := ⟨_, rfl⟩
  rw [hn]
  obtain ⟨K, hK⟩ : ∃ K : Nat, modW a4 7 = (K : Int) := ⟨(modW a4 7).toNat, by omega⟩
  rw [hK] at hk ⊢
  have hsn : smallB n = true := by simp [smallB, inB]; omega
  have hC := wheel_Course_ok n K hR hsn (by omega)
  rw [Int.toNat_natCast] at hC
  cases ho : courseW m T P n K with
  | none =>
    rw [ho] at hC
    exact Ev.bind (Ev.of hC) (Ev.neg (by decide) (Ev.pos rfl awake_t))
  | some l =>
    rw [ho] at hC
    obtain ⟨hlr, hs⟩ := courseW_is ho
    have hlen := remW_length m T P n K
    have hFo := wheel_Form_ok hR (remW_course hR n K) (by omega)
    subst hlr
    have hF := formIn hR (remW_course hR n K)
    rw [remW_length] at hF
    obtain ⟨⟨a, b, d⟩, hf⟩ : ∃ s, formW m T P (remW m T P n K) = s := ⟨_, rfl⟩
    rw [hf] at hF hFo
    have h20 := pow20_le (show K ≤ 6 by omega)
    have e20 : (20 : Int) ^ 6 = 64000000 := by decide
    have hp6 := pow6_pos K
    have a1 := hF.a1
    have a2 := hF.a2
    have b1 := hF.b1
    have b2 := hF.b2
    have d1 := hF.d1
    simp only at a1 a2 b1 b2 d1
    refine Ev.bind (Ev.of hC) (Ev.pos rfl (Ev.bind (Ev.of hFo) (Ev.pos rfl ?_)))
    refine Ev.neg (show ¬ d < 1 by omega) (Ev.neg (show ¬ a < 1 by omega) (Ev.neg (show ¬ a > 4398046511104 by omega) (Ev.neg (show ¬ b < -1152921504606846976 by omega) ?_)))
    dsimp only
    rw [decide_eq_false (show ¬ b > 1152921504606846976 by omega)]
    exact Ev.step (fun k => by rw [remouldlaw06_WheelFormed.j0, if_neg (show ¬ (false = true) by decide)]; rfl) (formed_l0 hR n K (by omega) hs hsn a b d hf K 0 (by omega) hsn)
end Go.Proofs.Ytkjojcepombhpaa.L
