/- Plain law: the courses of a length; the fraction of a form. -/
import Derived.Test.YtkjojcepombhpaaM3
import Derived.Test.YtkjojcepombhpaaXCourses
namespace Go.Proofs.Ytkjojcepombhpaa.L
set_option linter.unusedVariables false
set_option linter.unusedSimpArgs false
open Go.Proofs.YtkjojcepombhpaaW.PrintWords

variable {m : Int} {t p : List Int}
theorem formW_parts (h : RuleIs m t p) (l : List Int) : (formW m t p l).1 = prodW t l ∧ (formW m t p l).2.2 = powW m l.length := by
  have key : ∀ (l : List Int) (s : Int × Int × Int), (l.foldl (formStep m t p) s).1 = s.1 * prodW t l ∧ (l.foldl (formStep m t p) s).2.2 = s.2.2 * powW m l.length := by
    intro l
    induction l with
    | nil => intro s; simp [prodW, powW]
    | cons r l ih =>
      intro s
      rw [List.foldl_cons]
      obtain ⟨e1, e2⟩ := ih (formStep m t p s r)
      rw [e1, e2, List.length_cons, powW_succ]
      simp only [formStep, prodW]
      exact ⟨by rw [Int.mul_assoc], by rw [Int.mul_assoc]⟩
  have := key l (1, 0, 1)
  simpa [formW] using this
theorem form_ne (h : RuleIs m t p) {l : List Int} (hl : CourseIs m l) (h0 : l ≠ []) : (formW m t p l).1 ≠ (formW m t p l).2.2 := by
  obtain ⟨e1, e2⟩ := formW_parts h l
  rw [e1, e2]
  intro e
  have hg := prodW_gcd h hl
  have hd : m ∣ prodW t l := by
    rw [e]
    cases l with
    | nil => exact absurd rfl h0
    | cons r l => rw [List.length_cons, powW_succ]; exact Int.dvd_mul_right _ _
  have h2 : m ∣ (Int.gcd (prodW t l) m : Int) := Int.dvd_coe_gcd hd (Int.dvd_refl m)
  rw [hg] at h2
  have := Int.le_of_dvd (by decide) h2
  have := h.m2
  omega
theorem fixNum_bound (a b d B : Int) (hB : 0 ≤ B) (h1 : -B ≤ b) (h2 : b ≤ B) : -B ≤ fixNum a b d ∧ fixNum a b d ≤ B := by
  unfold fixNum
  obtain ⟨c, hc, c1, c2⟩ : ∃ c, (if d - a < 0 then -b else b) = c ∧ -B ≤ c ∧ c ≤ B := by
    split
    · exact ⟨_, rfl, by omega, by omega⟩
    · exact ⟨_, rfl, by omega, by omega⟩
  rw [hc]
  have hg : 0 ≤ (Int.gcd b (d - a) : Int) := by omega
  generalize (Int.gcd b (d - a) : Int) = g at *
  rcases Int.le_iff_lt_or_eq.1 hg with hg | hg
  · refine ⟨?_, ?_⟩
    · rw [Int.le_ediv_iff_mul_le hg]
      have := Int.mul_le_mul_of_nonneg_left (show (1 : Int) ≤ g by omega) hB
      have e : -B * g = -(B * g) := Int.neg_mul B g
      omega
    · have h3 : c / g ≤ B / g := Int.ediv_le_ediv hg c2
      have h4 : B / g ≤ B := Int.ediv_le_self g hB
      omega
  · rw [← hg, Int.ediv_zero]; omega

theorem extC_mem (M : Nat) : ∀ (j : Nat) (l : List Int), ∀ x ∈ extC M j l, x.length = l.length + j ∧ (CourseIs (M : Int) l → CourseIs (M : Int) x) ∧ l <+: x := by
  intro j
  induction j with
  | zero => intro l x hx; simp only [extC, List.mem_singleton] at hx; subst hx; exact ⟨by simp, fun h => h, List.prefix_rfl⟩
  | succ j ih =>
    intro l x hx
    simp only [extC, List.mem_flatMap, List.mem_range] at hx
    obtain ⟨k, hk, hx⟩ := hx
    obtain ⟨h1, h2, h3⟩ := ih _ x hx
    refine ⟨by rw [h1]; simp; omega, fun hl => h2 (fun r hr => ?_), (List.prefix_append _ _).trans h3⟩
    rcases List.mem_append.1 hr with h | h
    · exact hl r h
    · simp at h; subst h; omega
theorem extC_of (M : Nat) : ∀ (j : Nat) (l x : List Int), l <+: x → x.length = l.length + j → CourseIs (M : Int) x → x ∈ extC M j l := by
  intro j
  induction j with
  | zero => intro l x hp hl hc; simp only [extC, List.mem_singleton]; exact (hp.eq_of_length (by omega)).symm
  | succ j ih =>
    intro l x hp hl hc
    obtain ⟨s, rfl⟩ := hp
    cases s with
    | nil => simp at hl
    | cons r s =>
      simp only [extC, List.mem_flatMap, List.mem_range]
      have hr := hc r (by simp)
      refine ⟨r.toNat, by omega, ih _ _ ?_ (by simp at hl ⊢; omega) hc⟩
      rw [Int.toNat_of_nonneg hr.1]
      exact ⟨s, by simp⟩
theorem extC_length (M : Nat) : ∀ (j : Nat) (l : List Int), (extC M j l).length = M ^ j := by
  intro j
  induction j with
  | zero => intro l; rfl
  | succ j ih =>
    intro l
    simp only [extC, List.length_flatMap, ih]
    have e : ∀ n : Nat, ((List.range n).map (fun _ => M ^ j)).sum = n * M ^ j := by
      intro n
      induction n with
      | zero => simp
      | succ n ihn => rw [List.range_succ, List.map_append, List.sum_append, ihn]; simp [Nat.succ_mul]
    rw [e, Nat.pow_succ, Nat.mul_comm]
end Go.Proofs.Ytkjojcepombhpaa.L
