/- Plain law: which numbers Whole hands back. -/
import Derived.Test.YtkjojcepombhpaaN5
namespace Go.Proofs.Ytkjojcepombhpaa.L
set_option linter.unusedVariables false
set_option linter.unusedSimpArgs false
open Go.RowKit Go.Proofs.YtkjojcepombhpaaW.PrintWords Go.Proofs.YtkjojcepombhpaaW.PrintLast Go.Proofs.YtkjojcepombhpaaW.PrintMore

variable {m : Int} {t p : List Int}
/-- The smallest number of a cycle of exactly K numbers. -/
def IsWhole (m : Int) (t p : List Int) (K : Nat) (y : Int) : Prop := CycOf m t p y K ∧ ∀ i, y ≤ iterW m t p i y
theorem orbTo_rd0 (x : Int) (K : Nat) (h : 0 < K) : rd (orbTo m t p x K) 0 = x := by
  have := orbTo_get (m := m) (t := t) (p := p) x K 0 h
  rw [rd]
  simp [this]
  rfl
/-- A cycle of K numbers that is found within K steps. -/
theorem cycle_exact {y : Int} {K : Nat} {cy : List Int} {at' : Int} (h : cycleW m t p y K = (cy, at', 0)) (hl : cy.length = K) : CycOf m t p y K ∧ ∃ a, cy = orbTo m t p (iterW m t p a y) K ∧ ∀ i, iterW m t p a y ≤ iterW m t p i y := by
  obtain ⟨n, j, hf, rfl, hcy⟩ := cycleW_found h
  have h1 := hf.le
  have h2 := hf.lt
  have h3 : cy.length = n - j := by rw [hcy, writtenL_length, List.length_drop, orbTo_length]
  obtain rfl : j = 0 := by omega
  obtain rfl : n = K := by omega
  have hc := hf.cyc
  rw [show iterW m t p 0 y = y from rfl, Nat.sub_zero] at hc
  refine ⟨hc, ?_⟩
  obtain ⟨a, ha, _, hw, hmin⟩ := written_orb hc
  rw [List.drop_zero, hw] at hcy
  exact ⟨a, hcy, hmin⟩
theorem whole_cycle {y : Int} {K : Nat} (h : IsWhole m t p K y) {steps : Int} (hs : (K : Int) ≤ steps) (h5 : steps ≤ 500) : cycleW m t p y steps = (orbTo m t p y K, 0, 0) := by
  obtain ⟨hc, hmin⟩ := h
  have hf := cycleW_of (hc.found hs) h5
  rw [List.drop_zero] at hf
  obtain ⟨a, ha, _, hw, hm⟩ := written_orb hc
  have e : iterW m t p a y = y := by
    have h1 := hm 0
    have h2 := hmin a
    have : iterW m t p 0 y = y := rfl
    omega
  rw [hw, e] at hf
  exact hf
/-- The course of a whole cycle sends it to itself. -/
theorem whole_fix (h : RuleIs m t p) {y : Int} {K : Nat} (h0 : 0 < K) (hb : iterW m t p K y = y) : fixNum (formW m t p (remW m t p y K)).1 (formW m t p (remW m t p y K)).2.1 (formW m t p (remW m t p y K)).2.2 = y ∧ fixDen (formW m t p (remW m t p y K)).1 (formW m t p (remW m t p y K)).2.1 (formW m t p (remW m t p y K)).2.2 = 1 ∧ (formW m t p (remW m t p y K)).1 ≠ (formW m t p (remW m t p y K)).2.2 := by
  have hl := form_law h y K
  rw [hb] at hl
  have hne := form_ne h (remW_course h y K) (fun e => by have := remW_length m t p y K; rw [e] at this; simp at this; omega)
  generalize formW m t p (remW m t p y K) = s at *
  obtain ⟨a, b, d⟩ := s
  simp only at hl hne ⊢
  obtain ⟨e1, e2⟩ := fix_of (a := a) (b := b) (d := d) (y := y) (by rw [Int.sub_mul]; omega) hne
  exact ⟨e1, e2, hne⟩
theorem wholeO_iff (h : RuleIs m t p) {K : Nat} (h0 : 0 < K) (h5 : K ≤ 5) (y : Int) : y ∈ wholeO m t p K (extC m.toNat K []) ↔ IsWhole m t p K y := by
  have hm : ((m.toNat : Nat) : Int) = m := Int.toNat_of_nonneg (by have := h.m2; omega)
  unfold wholeO
  rw [List.mem_map]
  constructor
  · rintro ⟨l, hl, rfl⟩
    obtain ⟨hl, hB⟩ := List.mem_filter.1 hl
    simp only [wholeB, Bool.and_eq_true, decide_eq_true_eq] at hB
    obtain ⟨_, _, h3, h4, h5⟩ := hB
    generalize wholeX m t p l = y at *
    obtain ⟨⟨cy, at', e⟩, hcy⟩ : ∃ s, cycleW m t p y K = s := ⟨_, rfl⟩
    rw [hcy] at h3 h4 h5
    simp only at h3 h4 h5
    subst h3
    obtain ⟨hc, a, rfl, hmin⟩ := cycle_exact hcy (by omega)
    rw [orbTo_rd0 _ _ h0] at h5
    rw [h5] at hmin
    exact ⟨hc, hmin⟩
  · intro hy
    refine ⟨remW m t p y K, List.mem_filter.2 ⟨extC_of _ _ _ _ (List.nil_prefix) (by simp [remW_length]) (by rw [hm]; exact remW_course h y K), ?_⟩, (whole_fix h h0 hy.1.back).1⟩
    obtain ⟨e1, e2, _⟩ := whole_fix h h0 hy.1.back
    have ex : wholeX m t p (remW m t p y K) = y := e1
    simp only [wholeB, ex, Bool.and_eq_true, decide_eq_true_eq]
    rw [whole_cycle hy (Int.le_refl _) (by omega)]
    exact ⟨e2, follows_remW y K, rfl, by simp [orbTo_length], orbTo_rd0 _ _ h0⟩
theorem extC_nodup (M : Nat) : ∀ (j : Nat) (l : List Int), (extC M j l).Nodup := by
  intro j
  induction j with
  | zero => intro l; simp [extC]
  | succ j ih =>
    intro l
    unfold extC
    rw [List.Nodup, List.pairwise_flatMap]
    refine ⟨fun k _ => ih _, ?_⟩
    have hr : (List.range M).Pairwise (fun a b => a ≠ b) := List.nodup_range
    refine hr.imp ?_
    rintro a b hab x hx y hy rfl
    obtain ⟨_, _, s1, h1⟩ := extC_mem M j _ x hx
    obtain ⟨_, _, s2, h2⟩ := extC_mem M j _ x hy
    rw [← h2, List.append_assoc, List.append_assoc] at h1
    have := List.append_cancel_left h1
    simp at this
    exact hab (by omega)
theorem wholeO_nodup (h : RuleIs m t p) (K : Nat) : (wholeO m t p K (extC m.toNat K [])).Nodup := by
  unfold wholeO
  rw [List.Nodup, List.pairwise_map]
  refine List.Pairwise.imp_of_mem ?_ ((extC_nodup m.toNat K []).filter (wholeB m t p K))
  intro a b ha hb hne e
  obtain ⟨ha, hB⟩ := List.mem_filter.1 ha
  obtain ⟨hb, hC⟩ := List.mem_filter.1 hb
  simp only [wholeB, Bool.and_eq_true, decide_eq_true_eq] at hB hC
  have f1 := (follows_iff a _).1 hB.2.1
  have f2 := (follows_iff b _).1 hC.2.1
  rw [(extC_mem _ _ _ a ha).1] at f1
  rw [(extC_mem _ _ _ b hb).1, ← e] at f2
  exact hne (f1.symm.trans f2)
theorem wholeL_sorted (h : RuleIs m t p) (K : Nat) : (wholeL m t p K).Pairwise (· < ·) := by
  unfold wholeL
  have hp := List.mergeSort_perm (wholeO m t p K (extC m.toNat K [])) (fun x y => decide (x ≤ y))
  have hs := List.pairwise_mergeSort (le := fun x y : Int => decide (x ≤ y)) (fun a b c => by simp; omega) (fun a b => by simp; omega) (wholeO m t p K (extC m.toNat K []))
  have hn := hp.nodup_iff.2 (wholeO_nodup h K)
  rw [show ((K : Nat) : Int).toNat = K from rfl]
  refine (hs.and hn).imp ?_
  rintro a b ⟨h1, h2⟩
  have := of_decide_eq_true h1
  omega
theorem wholeL_iff (h : RuleIs m t p) {K : Nat} (h0 : 0 < K) (h5 : K ≤ 5) (y : Int) : y ∈ wholeL m t p K ↔ IsWhole m t p K y := by
  unfold wholeL
  rw [List.mem_mergeSort]
  exact wholeO_iff h h0 h5 y
theorem wholeL_length (h : RuleIs m t p) {K : Nat} (h5 : K ≤ 5) : (wholeL m t p K).length ≤ 7776 := by
  unfold wholeL
  rw [List.length_mergeSort]
  refine Nat.le_trans (wholeO_length _ _ _ _ _) ?_
  rw [extC_length]
  have h1 : m.toNat ^ K ≤ 6 ^ K := Nat.pow_le_pow_left (by have := h.m6; omega) K
  have h2 : 6 ^ K ≤ 6 ^ 5 := Nat.pow_le_pow_right (by decide) h5
  exact Nat.le_trans h1 (Nat.le_trans h2 (by decide))
end Go.Proofs.Ytkjojcepombhpaa.L
