/- Plain law: sides with a number of characters 1. -/
import Derived.Test.YtkefmlhkejoknaaP11
namespace Go.Proofs.Ytkefmlhkejoknaa.L
set_option linter.unusedVariables false
set_option linter.unusedSimpArgs false
open Go.RowKit Go.Proofs.YtkefmlhkejoknaaW.PrintWords Go.Proofs.YtkefmlhkejoknaaW.PrintLast Go.Proofs.YtkefmlhkejoknaaW.PrintMore

theorem sumTo_first (f : Nat → Int) (k : Nat) : sumTo f (k + 1) = f 0 + sumTo (fun v => f (v + 1)) k := by
  induction k with
  | zero => simp only [sumTo]; omega
  | succ k ih => rw [sumTo, ih]; simp only [sumTo]; omega
theorem sumTo_rev (f : Nat → Int) (k : Nat) : sumTo (fun v => f (k - 1 - v)) k = sumTo f k := by
  induction k with
  | zero => rfl
  | succ k ih =>
    rw [sumTo_first, sumTo]
    have : sumTo (fun v => f (k + 1 - 1 - (v + 1))) k = sumTo (fun v => f (k - 1 - v)) k := by
      apply sumTo_congr; intro i hi
      show f (k + 1 - 1 - (i + 1)) = f (k - 1 - i)
      congr 1; omega
    rw [this, ih]
    show f (k + 1 - 1 - 0) + sumTo f k = sumTo f k + f k
    rw [show k + 1 - 1 - 0 = k by omega]; omega
/-- How many of the first m bits are 1. -/
def cntB (s m : Nat) : Nat := (List.range m).countP fun i => s.testBit i
theorem cntB_succ (s m : Nat) : cntB s (m + 1) = cntB s m + (if s.testBit m then 1 else 0) := by
  unfold cntB
  rw [List.range_succ, List.countP_append]
  cases h : s.testBit m <;> simp [h]
theorem cntB_sum (s m : Nat) : (cntB s m : Int) = sumTo (fun i => if s.testBit i then 1 else 0) m := by
  induction m with
  | zero => rfl
  | succ m ih =>
    rw [cntB_succ, sumTo, ← ih]
    cases s.testBit m <;> simp
theorem cntB_more (s N : Nat) (hs : s < 2 ^ N) (d : Nat) : cntB s (N + d) = cntB s N := by
  induction d with
  | zero => rfl
  | succ d ih =>
    rw [← Nat.add_assoc, cntB_succ, ih, Nat.testBit_lt_two_pow (Nat.lt_of_lt_of_le hs (Nat.pow_le_pow_right (by omega) (by omega)))]
    simp
theorem onesB_cnt (s N : Nat) (hN : N ≤ 12) (hs : s < 2 ^ N) : onesB s = cntB s N := by
  have := cntB_more s N hs (12 - N)
  rw [show N + (12 - N) = 12 by omega] at this
  exact this
/-- The characters 1 of a side, counted from the first one. -/
def onesTo (N s : Nat) (k : Nat) : Int := sumTo (fun v => if hasB N s (v : Int) then 1 else 0) k
theorem onesTo_all (N s : Nat) (hN : N ≤ 12) (hs : s < 2 ^ N) : onesTo N s N = (onesB s : Int) := by
  rw [onesB_cnt s N hN hs, cntB_sum, ← sumTo_rev]
  unfold onesTo
  apply sumTo_congr
  intro v hv
  unfold hasB
  rw [show ((N : Int) - 1 - (v : Int)).toNat = N - 1 - v by omega]
theorem onesTo_le (N s k : Nat) : 0 ≤ onesTo N s k ∧ onesTo N s k ≤ k := by
  induction k with
  | zero => exact ⟨Int.le_refl _, Int.le_refl _⟩
  | succ k ih =>
    unfold onesTo at ih ⊢
    rw [sumTo]
    split <;> omega
theorem onesTo_comp (N s : Nat) (hs : s < 2 ^ N) (k : Nat) (hk : k ≤ N) : onesTo N (compS N s) k = k - onesTo N s k := by
  induction k with
  | zero => rfl
  | succ k ih =>
    have ih' := ih (by omega)
    unfold onesTo at ih' ⊢
    rw [sumTo, sumTo, ih']
    unfold compS
    rw [has_flip N s hs _ (by omega) (by omega)]
    cases hasB N s (k : Int) <;> simp <;> omega
theorem ones_comp (N s : Nat) (hN : N ≤ 12) (hs : s < 2 ^ N) : (onesB (compS N s) : Int) = N - onesB s := by
  rw [← onesTo_all N _ hN (compS_lt N s), onesTo_comp N s hs N (Nat.le_refl _), onesTo_all N s hN hs]
theorem ones_exist (k : Nat) (hk : k ≤ 12) : onesB (2 ^ k - 1) = k := by
  have h : ∀ k, k ≤ 12 → onesB (2 ^ k - 1) = k := by decide +kernel
  exact h k hk
/-- What Balanced comes to. -/
theorem balanced_is (N : Nat) (hN : N ≤ 12) (l : List S49) (k : Nat) (hk : k ≤ N) :
    let r := bestB N l (fun s => (onesB s : Int) == (k : Int)) (2 ^ N)
    r.2.2 ≠ 0 ∧ r.1 < 2 ^ N ∧ onesB r.1 = k ∧ valB N r.1 l = r.2.1 ∧ ∀ s, s < 2 ^ N → onesB s = k → valB N s l ≤ r.2.1 := by
  obtain ⟨i0, i1, i2⟩ := best_max N l (fun s => (onesB s : Int) == (k : Int)) (2 ^ N)
  have hz : (bestB N l (fun s => (onesB s : Int) == (k : Int)) (2 ^ N)).2.2 ≠ 0 := fun h => by
    have h1 : 2 ^ k ≤ 2 ^ N := Nat.pow_le_pow_right (by omega) hk
    have h2 := Nat.two_pow_pos k
    have := i1 h (2 ^ k - 1) (by omega)
    simp only [ones_exist k (by omega), beq_self_eq_true] at this
    cases this
  obtain ⟨a, b, c, d, _⟩ := i2 hz
  refine ⟨hz, a, ?_, c, fun s hs ho => d s hs (by simp only [ho, beq_self_eq_true])⟩
  have := eq_of_beq b
  omega
/-- The same for the opposite number. -/
theorem balanced_comp (N : Nat) (hN : N ≤ 12) (l : List S49) (hne : EdgesNe N l) (k : Nat) (hk : k ≤ N) :
    (bestB N l (fun s => (onesB s : Int) == (k : Int)) (2 ^ N)).2.1 = (bestB N l (fun s => (onesB s : Int) == ((N - k : Nat) : Int)) (2 ^ N)).2.1 := by
  obtain ⟨_, a1, a2, a3, a4⟩ := balanced_is N hN l k hk
  obtain ⟨_, b1, b2, b3, b4⟩ := balanced_is N hN l (N - k) (by omega)
  generalize bestB N l (fun s => (onesB s : Int) == (k : Int)) (2 ^ N) = r at a1 a2 a3 a4
  generalize bestB N l (fun s => (onesB s : Int) == ((N - k : Nat) : Int)) (2 ^ N) = q at b1 b2 b3 b4
  have h1 := a4 (compS N q.1) (compS_lt N _) (by have := ones_comp N q.1 hN b1; omega)
  have h2 := b4 (compS N r.1) (compS_lt N _) (by have := ones_comp N r.1 hN a1; omega)
  rw [show valB N (compS N q.1) l = valB N q.1 l from val_comp N q.1 b1 l hne] at h1
  rw [show valB N (compS N r.1) l = valB N r.1 l from val_comp N r.1 a1 l hne] at h2
  omega
theorem balanced_le (N : Nat) (h0 : 1 ≤ N) (hN : N ≤ 12) (l : List S49) (hne : EdgesNe N l) (k : Nat) (hk : k ≤ N) :
    (bestB N l (fun s => (onesB s : Int) == (k : Int)) (2 ^ N)).2.1 ≤ (bestB N l (properB N) (2 ^ N)).2.1 := by
  obtain ⟨_, a1, _, a3, _⟩ := balanced_is N hN l k hk
  obtain ⟨_, _, _, b4, _⟩ := best_is N h0 l hne
  rw [← a3]
  exact b4 _ a1
theorem balanced_best (N : Nat) (h0 : 1 ≤ N) (hN : N ≤ 12) (l : List S49) (hne : EdgesNe N l) (k : Nat) (hk : k = onesB (bestB N l (properB N) (2 ^ N)).1) :
    k ≤ N ∧ (bestB N l (fun s => (onesB s : Int) == (k : Int)) (2 ^ N)).2.1 = (bestB N l (properB N) (2 ^ N)).2.1 := by
  obtain ⟨b1, b2, _, b4, _⟩ := best_is N h0 l hne
  have hhalf : 2 ^ (N - 1) ≤ 2 ^ N := Nat.pow_le_pow_right (by omega) (by omega)
  have hlt : (bestB N l (properB N) (2 ^ N)).1 < 2 ^ N := by omega
  have hkN : k ≤ N := by
    have h1 := onesTo_all N _ hN hlt
    have h2 := onesTo_le N (bestB N l (properB N) (2 ^ N)).1 N
    omega
  refine ⟨hkN, ?_⟩
  have h1 := balanced_le N h0 hN l hne k hkN
  obtain ⟨_, _, _, _, a4⟩ := balanced_is N hN l k hkN
  have h2 := a4 _ hlt hk.symm
  rw [b2] at h2
  omega

end Go.Proofs.Ytkefmlhkejoknaa.L
