/- Plain law: the reference's Back. -/
import Derived.Test.YtkjojcepombhpaaN11
import Derived.Test.YtkjojcepombhpaaN5
import Derived.Test.YtkjojcepombhpaaL24
namespace Go.Proofs.Ytkjojcepombhpaa.L
set_option linter.unusedVariables false
set_option linter.unusedSimpArgs false
open Go.RowKit Go.Proofs.YtkjojcepombhpaaW.PrintWords Go.Proofs.YtkjojcepombhpaaW.PrintLast Go.Proofs.YtkjojcepombhpaaW.PrintMore

variable {m : Int} {t p : List Int}
/-- How the reference hands them back. -/
def backRes (l : List Int) : List Int × Bool := if l.any (fun n => !smallB n) then ([], false) else (l, true)
theorem Back_l0 (h : RuleIs m t p) (y : Int) (hy : smallB y = true) : ∀ d i : Nat, (i : Int) + d = m → ∀ out : List Int, out.Pairwise (· < ·) → (∀ n, n ∈ out ↔ n ∈ backTo m t p y i) → (∀ n ∈ out, smallB n = true) → out.length ≤ i →
    Ev (fun k => remouldref06_Back.l0 k y out (i : Int) m t p) (backRes (backW m t p y)) := by
  have hys := (small_iff y).1 hy
  have hm2 := h.m2
  have hm6 := h.m6
  have htl := h.tl
  have hpl := h.pl
  have hmy : -6597069766656 ≤ m * y ∧ m * y ≤ 6597069766656 := by
    refine ⟨?_, ?_⟩
    · have e1 := Int.mul_le_mul_of_nonneg_left hys.1 (show 0 ≤ m by omega)
      have e2 := Int.mul_le_mul_of_nonneg_right hm6 (show (0 : Int) ≤ 1099511627776 by decide)
      have e : m * -1099511627776 = -(m * 1099511627776) := Int.mul_neg ..
      omega
    · have e1 := Int.mul_le_mul_of_nonneg_left hys.2 (show 0 ≤ m by omega)
      have e2 := Int.mul_le_mul_of_nonneg_right hm6 (show (0 : Int) ≤ 1099511627776 by decide)
      omega
  intro d
  induction d with
  | zero =>
    intro i hi out ho hmem hsm hlen
    have hout : out = backW m t p y := by
      refine sorted_unique _ _ ho (backW_sorted h y) (fun n => ?_)
      rw [hmem, backTo_mem h (by omega), backW_mem h]
      have := (h.rest n).2
      exact ⟨fun h => h.1, fun h => ⟨h, by omega⟩⟩
    have hany : (backW m t p y).any (fun n => !smallB n) = false := by
      rw [← hout, List.any_eq_false]
      intro n hn
      rw [hsm n hn]; decide
    unfold backRes
    rw [hany, if_neg (by decide), ← hout]
    exact Ev.step (h := fun _ => some (out, true)) (fun k => by rw [remouldref06_Back.l0, if_neg (by omega)]) (Ev.const _)
  | succ d ih =>
    intro i hi out ho hmem hsm hlen
    have ew : wrap64 ((i : Int) + 1) = ((i + 1 : Nat) : Int) := by rw [wrap64_id _ (by omega) (by omega)]; rfl
    obtain ⟨t1, t2, _, p1, p2, _⟩ := h.ok (i : Int) (by omega) (by omega)
    have hsucc := backTo_succ m t p y i
    have hba : backAt m t p y (i : Int) = _ := rfl
    conv at hba => rhs; unfold backAt
    have e1 : wrap64 (wrap64 (m * y) - rd p (i : Int)) = m * y - rd p (i : Int) := by rw [wrap64_id (m * y) (by omega) (by omega), wrap64_id _ (by omega) (by omega)]
    have hq : (((m * y - rd p (i : Int)).tdiv (rd t (i : Int))).natAbs) ≤ (m * y - rd p (i : Int)).natAbs := by rw [Int.natAbs_tdiv]; exact Nat.div_le_self _ _
    have e2 : wrap64 ((m * y - rd p (i : Int)).tdiv (rd t (i : Int))) = (m * y - rd p (i : Int)).tdiv (rd t (i : Int)) := wrap64_id _ (by omega) (by omega)
    have ha0 : ¬ rd t (i : Int) = 0 := by omega
    have hil : (i : Int) < m := by omega
    have hit : (i : Int) < (t.length : Int) := by omega
    have hip : (i : Int) < (p.length : Int) := by omega
    have hi0 : (0 : Int) ≤ (i : Int) := by omega
    -- it does not count
    have hskip : backAt m t p y (i : Int) = none → Ev (fun k => remouldref06_Back.l0 k y out ((i + 1 : Nat) : Int) m t p) (backRes (backW m t p y)) := by
      intro e
      rw [e] at hsucc
      exact ih (i + 1) (by omega) out ho (by rw [hsucc]; exact hmem) hsm (by omega)
    generalize hN : m * y - rd p (i : Int) = N at *
    generalize hA : rd t (i : Int) = a at *
    by_cases h1 : N.tmod a = 0
    · by_cases h2 : N.tdiv a % m = (i : Int)
      · rw [if_pos ⟨h1, h2⟩] at hba
        rw [hba] at hsucc
        refine Ev.step (fun k => by rw [remouldref06_Back.l0, if_pos hil, if_pos hi0, if_pos hip, if_pos hit, hA, if_neg ha0, e1, if_pos h1, e2]) (Ev.bind (Ev.of (Rest_f h _)) ?_)
        have hb : (N.tdiv a % m != (i : Int)) = false := by simpa using h2
        rw [hb]
        refine Ev.step (fun k => by rw [remouldref06_Back.j1, if_neg (show ¬ (false = true) by decide), if_pos hi0, if_pos hit, hA, if_neg ha0, e2]) (Ev.bind (Ev.of (large_f _)) ?_)
        cases hsn : smallB (N.tdiv a)
        · have hany : (backW m t p y).any (fun n => !smallB n) = true := by
            rw [List.any_eq_true]
            refine ⟨N.tdiv a, (backW_mem h).2 ((backAt_is h ⟨hi0, hil⟩).1 hba).1, by rw [hsn]; rfl⟩
          unfold backRes
          rw [hany, if_pos rfl]
          exact Ev.pos rfl (Ev.const _)
        · obtain ⟨q, b, hins⟩ := insert_f out (N.tdiv a) (by omega)
          refine Ev.neg (by decide) (Ev.bind hins ?_)
          rw [ew]
          refine ih (i + 1) (by omega) _ (insU_sorted _ _ ho) (fun n => ?_) (fun n hn => ?_) ?_
          · rw [insU_mem, hsucc, hmem]
            simp [or_comm]
          · rcases (insU_mem _ _ n).1 hn with rfl | hn
            · exact hsn
            · exact hsm n hn
          · have := insU_length (N.tdiv a) out
            show (insU (N.tdiv a) out).length ≤ i + 1
            omega
      · rw [if_neg (fun h => h2 h.2)] at hba
        have hb : (N.tdiv a % m != (i : Int)) = true := by simpa using h2
        refine Ev.step (fun k => by rw [remouldref06_Back.l0, if_pos hil, if_pos hi0, if_pos hip, if_pos hit, hA, if_neg ha0, e1, if_pos h1, e2]) (Ev.bind (Ev.of (Rest_f h _)) ?_)
        rw [hb]
        exact Ev.step (fun k => by rw [remouldref06_Back.j1, if_pos rfl, ew]) (hskip hba)
    · rw [if_neg (fun h => h1 h.1)] at hba
      refine Ev.step (h := fun k => remouldref06_Back.j1 k y out (i : Int) N true m t p) (fun k => by rw [remouldref06_Back.l0, if_pos hil, if_pos hi0, if_pos hip, if_pos hit, hA, if_neg ha0, e1, if_neg h1]) ?_
      exact Ev.step (fun k => by rw [remouldref06_Back.j1, if_pos rfl, ew]) (hskip hba)
theorem Back_f (h : RuleIs m t p) (y : Int) (hy : smallB y = true) : Ev (fun k => remouldref06_Back.f k m t p y) (backRes (backW m t p y)) :=
  Back_l0 h y hy m.toNat 0 (by have := h.m2; omega) [] List.Pairwise.nil (fun n => by simp [backTo]) (by simp) (by simp)
end Go.Proofs.Ytkjojcepombhpaa.L
