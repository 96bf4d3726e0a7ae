/- Plain law: the numbers that are sent to a number. -/
import Derived.Test.YtkjojcepombhpaaXBack
namespace Go.Proofs.Ytkjojcepombhpaa.L
set_option linter.unusedVariables false
set_option linter.unusedSimpArgs false
open Go.RowKit Go.Proofs.YtkjojcepombhpaaW.PrintWords Go.Proofs.YtkjojcepombhpaaW.PrintLast Go.Proofs.YtkjojcepombhpaaW.PrintMore

theorem rd_get' (l : List Int) (i : Nat) (h : i < l.length) : rd l (i : Int) = l[i] := by simp [rd, List.getElem?_eq_getElem h]
variable {m : Int} {t p : List Int}
theorem backAt_is (h : RuleIs m t p) {y n r : Int} (hr : 0 ≤ r ∧ r < m) : backAt m t p y r = some n ↔ sentW m t p n = y ∧ n % m = r := by
  obtain ⟨t1, t2, _, p1, p2, _⟩ := h.ok r hr.1 hr.2
  have hm := h.mpos
  unfold backAt
  constructor
  · intro e
    split at e
    · rename_i hc
      obtain ⟨h1, h2⟩ := hc
      have e := Option.some.inj e
      have hd := Int.dvd_of_tmod_eq_zero h1
      have e2 : rd t r * n = m * y - rd p r := by
        rw [← e, Int.mul_tdiv_cancel' hd]
      rw [e] at h2
      refine ⟨?_, h2⟩
      unfold sentW
      rw [h2, e2, show m * y - rd p r + rd p r = m * y by omega, Int.mul_ediv_cancel_left _ (by omega)]
    · cases e
  · rintro ⟨e1, e2⟩
    have hmul := h.mul n
    rw [e1, e2] at hmul
    have e3 : m * y - rd p r = rd t r * n := by omega
    have e4 : (rd t r * n).tdiv (rd t r) = n := Int.mul_tdiv_cancel_left n (by omega)
    rw [e3, e4, if_pos ⟨Int.tmod_eq_zero_of_dvd (Int.dvd_mul_right _ _), e2⟩]
theorem backTo_mem (h : RuleIs m t p) {y : Int} {i : Nat} (hi : (i : Int) ≤ m) (n : Int) : n ∈ backTo m t p y i ↔ sentW m t p n = y ∧ n % m < i := by
  unfold backTo
  rw [List.mem_filterMap]
  constructor
  · rintro ⟨j, hj, e⟩
    rw [List.mem_range] at hj
    obtain ⟨e1, e2⟩ := (backAt_is h (by omega)).1 e
    exact ⟨e1, by omega⟩
  · rintro ⟨e1, e2⟩
    have hr := h.rest n
    refine ⟨(n % m).toNat, List.mem_range.2 (by omega), ?_⟩
    rw [Int.toNat_of_nonneg hr.1]
    exact (backAt_is h hr).2 ⟨e1, rfl⟩
/-- Two numbers with one remainder that are sent to one number are one. -/
theorem back_inj (h : RuleIs m t p) {a b : Int} (hs : sentW m t p a = sentW m t p b) (hr : a % m = b % m) : a = b := by
  have e1 := h.mul a
  have e2 := h.mul b
  rw [hs, hr] at e1
  have h0 := h.rest b
  obtain ⟨t1, _⟩ := h.ok (b % m) h0.1 h0.2
  have e3 : rd t (b % m) * a = rd t (b % m) * b := by omega
  exact Int.eq_of_mul_eq_mul_left (by omega) e3
theorem backTo_nodup (h : RuleIs m t p) (y : Int) : ∀ i : Nat, (i : Int) ≤ m → (backTo m t p y i).Nodup := by
  intro i
  induction i with
  | zero => intro _; simp [backTo]
  | succ i ih =>
    intro hi
    have ih := ih (by omega)
    rw [backTo_succ]
    cases hb : backAt m t p y (i : Int) with
    | none => exact ih
    | some n =>
      have hn := (backAt_is h (by omega)).1 hb
      refine List.nodup_append.2 ⟨ih, by simp, fun a ha b hb e => ?_⟩
      rw [List.mem_singleton] at hb
      subst hb e
      have := (backTo_mem h (by omega) a).1 ha
      omega
theorem backW_mem (h : RuleIs m t p) {y n : Int} : n ∈ backW m t p y ↔ sentW m t p n = y := by
  unfold backW
  have htl := h.tl
  rw [List.mem_mergeSort, backTo_mem h (by omega), htl]
  have := (h.rest n).2
  exact ⟨fun h => h.1, fun h => ⟨h, this⟩⟩
theorem backW_sorted (h : RuleIs m t p) (y : Int) : (backW m t p y).Pairwise (· < ·) := by
  unfold backW
  have htl := h.tl
  have hp := List.mergeSort_perm (backTo m t p y t.length) (fun x y => decide (x ≤ y))
  have hs := List.pairwise_mergeSort (le := fun x y : Int => decide (x ≤ y)) (fun a b c => by simp; omega) (fun a b => by simp; omega) (backTo m t p y t.length)
  have hn := hp.nodup_iff.2 (backTo_nodup h y t.length (by omega))
  refine (hs.and hn).imp ?_
  rintro a b ⟨h1, h2⟩
  have := of_decide_eq_true h1
  omega
theorem wheel_Back_ok (h : RuleIs m t p) {y : Int} (hy : smallB y = true) : wheel_Back.f m t p y = some (if (backW m t p y).any (fun n => !smallB n) then ([], 5) else (backW m t p y, 0)) := by
  unfold wheel_Back.f
  rw [ruleB_of h, hy]
  rfl
end Go.Proofs.Ytkjojcepombhpaa.L
