import Derived.Test.YtkefmlhkejoknaaP4
import Derived.Test.YtkefmlhkejoknaaP7

/- Plain law: sums of gains; what Best and Climb come to. -/
namespace Go.Proofs.Ytkefmlhkejoknaa.L
set_option linter.unusedVariables false
set_option linter.unusedSimpArgs false
open Go.RowKit Go.Proofs.YtkefmlhkejoknaaW.PrintWords Go.Proofs.YtkefmlhkejoknaaW.PrintLast Go.Proofs.YtkefmlhkejoknaaW.PrintMore

/-- The sum of the weights. -/
def sumW : List S49 → Int
  | [] => 0
  | e :: l => e.f2 + sumW l
def sumTo (f : Nat → Int) : Nat → Int
  | 0 => 0
  | k + 1 => sumTo f k + f k
theorem sumTo_add (f g : Nat → Int) (k : Nat) : sumTo (fun v => f v + g v) k = sumTo f k + sumTo g k := by
  induction k with
  | zero => rfl
  | succ k ih => simp only [sumTo, ih]; omega
theorem sumTo_zero (k : Nat) : sumTo (fun _ => 0) k = 0 := by
  induction k with
  | zero => rfl
  | succ k ih => simp only [sumTo, ih]; rfl
theorem sumTo_congr (f g : Nat → Int) (k : Nat) (h : ∀ i, i < k → f i = g i) : sumTo f k = sumTo g k := by
  induction k with
  | zero => rfl
  | succ k ih => simp only [sumTo, ih (fun i hi => h i (by omega)), h k (by omega)]
theorem sumTo_le (f : Nat → Int) (k : Nat) (h : ∀ i, i < k → f i ≤ 0) : sumTo f k ≤ 0 := by
  induction k with
  | zero => exact Int.le_refl _
  | succ k ih => simp only [sumTo]; have := ih (fun i hi => h i (by omega)); have := h k (by omega); omega
theorem sumTo_pick (a w : Int) (N : Nat) : sumTo (fun v => if a = (v : Int) then w else 0) N = if 0 ≤ a ∧ a < N then w else 0 := by
  induction N with
  | zero => simp only [sumTo]; rw [if_neg (by omega)]
  | succ N ih =>
    simp only [sumTo, ih]
    by_cases c : a = (N : Int)
    · rw [if_pos c, if_neg (by omega), if_pos (by omega)]; omega
    · rw [if_neg c]
      by_cases d : 0 ≤ a ∧ a < N
      · rw [if_pos d, if_pos (by omega)]; omega
      · rw [if_neg d, if_neg (by omega)]; rfl
/-- The gains add up. -/
theorem sum_gains (N s : Nat) (l : List S49) (hne : EdgesNe N l) : sumTo (fun v => gainB N s v l) N = 2 * sumW l - 4 * valB N s l := by
  induction l with
  | nil => simp only [gainB, sumTo_zero, sumW, valB]; rfl
  | cons e l ih =>
    have ih' := ih (fun x hx => hne x (List.mem_cons_of_mem _ hx))
    have h := hne e List.mem_cons_self
    have hs : sumTo (fun v => gainB N s v (e :: l)) N = (sumTo (fun v => if e.f0 = (v : Int) then (if cutB N s e then - e.f2 else e.f2) else 0) N + sumTo (fun v => if e.f1 = (v : Int) then (if cutB N s e then - e.f2 else e.f2) else 0) N) + sumTo (fun v => gainB N s v l) N := by
      rw [← sumTo_add, ← sumTo_add]
      apply sumTo_congr
      intro v _
      rw [gainB]
      generalize (if cutB N s e then - e.f2 else e.f2) = W
      congr 1
      have hn := h.2.2.2.2
      by_cases a : e.f0 = (v : Int)
      · rw [if_pos (.inl a), if_pos a, if_neg (fun b => hn (a.trans b.symm)), Int.add_zero]
      · by_cases b : e.f1 = (v : Int)
        · rw [if_pos (.inr b), if_neg a, if_pos b, Int.zero_add]
        · rw [if_neg (by rintro (c | c); exact a c; exact b c), if_neg a, if_neg b]; rfl
    obtain ⟨W, hW⟩ : ∃ W, W = (if cutB N s e then - e.f2 else e.f2) := ⟨_, rfl⟩
    rw [hs, ← hW, sumTo_pick, sumTo_pick, if_pos ⟨h.1, h.2.1⟩, if_pos ⟨h.2.2.1, h.2.2.2.1⟩, ih', sumW, valB, hW]
    cases cutB N s e <;> simp only [if_true, if_false, Bool.false_eq_true] <;> omega
theorem gain_none {N s : Nat} {l : List S49} (h : firstGain N l s = none) (v : Nat) (hv : v < N) : gainB N s v l ≤ 0 := by
  unfold firstGain at h
  rw [List.find?_eq_none] at h
  have := h v (by simpa using hv)
  simp at this
  exact this
theorem half_top {N s : Nat} {l : List S49} (hne : EdgesNe N l) (h : firstGain N l s = none) : sumW l ≤ 2 * valB N s l := by
  have h1 := sum_gains N s l hne
  have h2 := sumTo_le (fun v => gainB N s v l) N (fun v hv => gain_none h v hv)
  omega
/-- The value of the opposite side is the same. -/
theorem cut_comp (N t : Nat) (ht : t < 2 ^ N) (e : S49) (h : 0 ≤ e.f0 ∧ e.f0 < N ∧ 0 ≤ e.f1 ∧ e.f1 < N) : cutB N (2 ^ N - (t + 1)) e = cutB N t e := by
  rw [cutB, cutB, has_flip N t ht _ h.1 h.2.1, has_flip N t ht _ h.2.2.1 h.2.2.2]
  cases hasB N t e.f0 <;> cases hasB N t e.f1 <;> rfl
theorem val_comp (N t : Nat) (ht : t < 2 ^ N) (l : List S49) (hne : EdgesNe N l) : valB N (2 ^ N - (t + 1)) l = valB N t l := by
  induction l with
  | nil => rfl
  | cons e l ih =>
    have h := hne e List.mem_cons_self
    rw [valB, valB, ih (fun x hx => hne x (List.mem_cons_of_mem _ hx)), cut_comp N t ht e ⟨h.1, h.2.1, h.2.2.1, h.2.2.2.1⟩]
/-- The greatest one of the wanted sides. -/
theorem best_max (n : Int) (l : List S49) (want : Nat → Bool) (k : Nat) :
    0 ≤ (bestB n l want k).2.2 ∧ ((bestB n l want k).2.2 = 0 → ∀ s, s < k → want s = false) ∧ ((bestB n l want k).2.2 ≠ 0 → (bestB n l want k).1 < k ∧ want (bestB n l want k).1 = true ∧ valB n (bestB n l want k).1 l = (bestB n l want k).2.1 ∧
      (∀ s, s < k → want s = true → valB n s l ≤ (bestB n l want k).2.1) ∧ ∀ s, s < (bestB n l want k).1 → want s = true → valB n s l < (bestB n l want k).2.1) := by
  induction k with
  | zero => exact ⟨Int.le_refl _, fun _ s h => by omega, fun h => absurd rfl h⟩
  | succ k ih =>
    obtain ⟨i0, i1, i2⟩ := ih
    rw [bestB]
    generalize hr : bestB n l want k = r at i0 i1 i2
    unfold bestStep
    cases hw : want k
    · rw [if_neg (by decide)]
      refine ⟨i0, fun h s hs => ?_, fun h => ?_⟩
      · by_cases e : s = k
        · subst e; exact hw
        · exact i1 h s (by omega)
      · obtain ⟨a, b, c, d, e⟩ := i2 h
        refine ⟨by omega, b, c, fun s hs hws => ?_, e⟩
        by_cases e : s = k
        · subst e; rw [hw] at hws; cases hws
        · exact d s (by omega) hws
    · rw [if_pos rfl]
      by_cases c1 : r.2.2 = 0 ∨ valB n k l > r.2.1
      · rw [if_pos c1]
        have hall : ∀ s, s < k → want s = true → valB n s l < valB n k l := fun s hs hws => by
          by_cases hz : r.2.2 = 0
          · rw [i1 hz s hs] at hws; cases hws
          · obtain ⟨_, _, _, d, _⟩ := i2 hz
            rcases c1 with c1 | c1
            · exact absurd c1 hz
            · have := d s hs hws; omega
        refine ⟨by simp, fun h => by simp at h, fun _ => ⟨by simp, hw, rfl, fun s hs hws => ?_, fun s hs hws => hall s hs hws⟩⟩
        show valB n s l ≤ valB n k l
        by_cases e : s = k
        · subst e; exact Int.le_refl _
        · exact Int.le_of_lt (hall s (by omega) hws)
      · rw [if_neg c1]
        have hz : r.2.2 ≠ 0 := fun h => c1 (.inl h)
        obtain ⟨a, b, c, d, e⟩ := i2 hz
        have hle : ∀ s, s < k + 1 → want s = true → valB n s l ≤ r.2.1 := fun s hs hws => by
          by_cases e : s = k
          · subst e
            rcases Int.lt_or_le r.2.1 (valB n s l) with h | h
            · exact absurd (.inr h) c1
            · exact h
          · exact d s (by omega) hws
        split
        · exact ⟨by show 0 ≤ r.2.2 + 1; omega, fun h => by (have : r.2.2 + 1 = 0 := h); omega, fun _ => ⟨by show r.1 < k + 1; omega, b, c, hle, e⟩⟩
        · exact ⟨i0, fun h => absurd h hz, fun _ => ⟨by omega, b, c, hle, e⟩⟩
/-- What Best says of a graph. -/
theorem best_is (N : Nat) (h0 : 1 ≤ N) (l : List S49) (hne : EdgesNe N l) : (bestB N l (properB N) (2 ^ N)).1 < 2 ^ (N - 1) ∧ valB N (bestB N l (properB N) (2 ^ N)).1 l = (bestB N l (properB N) (2 ^ N)).2.1 ∧ 1 ≤ (bestB N l (properB N) (2 ^ N)).2.2 ∧
    (∀ s, s < 2 ^ N → valB N s l ≤ (bestB N l (properB N) (2 ^ N)).2.1) ∧ ∀ s, s < (bestB N l (properB N) (2 ^ N)).1 → valB N s l < (bestB N l (properB N) (2 ^ N)).2.1 := by
  obtain ⟨i0, i1, i2⟩ := best_max N l (properB N) (2 ^ N)
  generalize bestB N l (properB N) (2 ^ N) = r at i0 i1 i2
  have h3 : 2 ^ N = 2 ^ (N - 1) + 2 ^ (N - 1) := by
    obtain ⟨m, rfl⟩ : ∃ m, N = m + 1 := ⟨N - 1, by omega⟩
    rw [Nat.pow_succ]; simp; omega
  have hpos : 0 < 2 ^ (N - 1) := Nat.two_pow_pos (N - 1)
  have hz : r.2.2 ≠ 0 := fun h => by
    have := i1 h 0 (by omega)
    rw [proper_half N 0 h0 hpos] at this; cases this
  obtain ⟨a, b, c, d, e⟩ := i2 hz
  have hlt : r.1 < 2 ^ (N - 1) := by
    rcases Nat.lt_or_ge r.1 (2 ^ (N - 1)) with h | h
    · exact h
    · rw [proper_not N r.1 h0 h a] at b; cases b
  refine ⟨hlt, c, by omega, fun s hs => ?_, fun s hs => e s hs (proper_half N s h0 (by omega))⟩
  rcases Nat.lt_or_ge s (2 ^ (N - 1)) with h | h
  · exact d s hs (proper_half N s h0 h)
  · rw [← val_comp N s hs l hne]
    exact d _ (by omega) (proper_half N _ h0 (by omega))
theorem flipS_lt (N s i : Nat) (hi : i < N) (hs : s < 2 ^ N) : flipS N s i < 2 ^ N := by
  unfold flipS
  exact Nat.xor_lt_two_pow hs (Nat.pow_lt_pow_right (by omega) (by omega))
/-- What Climb comes to. -/
theorem climb_props (N : Nat) (l : List S49) (hne : EdgesNe N l) (rr : Nat × Int) : ∀ (fu s : Nat) (f : Int), s < 2 ^ N → climbB N l fu s f = some rr →
    rr.1 < 2 ^ N ∧ firstGain N l rr.1 = none ∧ f ≤ rr.2 ∧ rr.2 - f ≤ valB N rr.1 l - valB N s l ∧ (rr.2 = f → rr.1 = s) ∧ (firstGain N l s = none → rr = (s, f)) := by
  intro fu
  induction fu with
  | zero => intro s f _ h; simp [climbB] at h
  | succ fu ih =>
    intro s f hs h
    rw [climbB] at h
    cases hv : firstGain N l s with
    | none =>
      rw [hv] at h
      simp only [Option.some.injEq] at h
      subst h
      exact ⟨hs, hv, Int.le_refl _, by show f - f ≤ valB N s l - valB N s l; omega, fun _ => rfl, fun _ => rfl⟩
    | some v =>
      rw [hv] at h
      have hp : 0 < gainB N s v l := by have := List.find?_some hv; simpa using this
      have hvN : v < N := by have := List.mem_of_find?_eq_some hv; simpa using this
      have hg := gain_flip N s v hvN l hne
      obtain ⟨a, b, c, d, e, g⟩ := ih (flipS N s v) (f + 1) (flipS_lt N s v hvN hs) h
      have d' : rr.2 - (f + 1) ≤ valB N rr.1 l - valB N (s ^^^ 2 ^ ((N : Int) - 1 - (v : Int)).toNat) l := d
      exact ⟨a, b, by omega, by omega, fun h => by omega, fun h => by cases h⟩
theorem val_nonneg (n : Int) (s : Nat) (l : List S49) (h : ∀ e ∈ l, 0 ≤ e.f2) : 0 ≤ valB n s l ∧ valB n s l ≤ sumW l := by
  induction l with
  | nil => exact ⟨Int.le_refl _, Int.le_refl _⟩
  | cons e l ih =>
    have := ih (fun x hx => h x (List.mem_cons_of_mem _ hx))
    have := h e List.mem_cons_self
    rw [valB, sumW]
    cases cutB n s e <;> simp only [if_true, if_false, Bool.false_eq_true] <;> omega

end Go.Proofs.Ytkefmlhkejoknaa.L

/- Plain law: switching; the opposite side. -/
namespace Go.Proofs.Ytkefmlhkejoknaa.L
set_option linter.unusedVariables false
set_option linter.unusedSimpArgs false
open Go.RowKit Go.Proofs.YtkefmlhkejoknaaW.PrintWords Go.Proofs.YtkefmlhkejoknaaW.PrintLast Go.Proofs.YtkefmlhkejoknaaW.PrintMore

theorem hasB_xor (n : Int) (s t : Nat) (v : Int) : hasB n (s ^^^ t) v = (hasB n s v != hasB n t v) := by
  unfold hasB; rw [Nat.testBit_xor]
theorem cut_xor (n : Int) (s t : Nat) (e : S49) : cutB n (s ^^^ t) e = (cutB n s e != cutB n t e) := by
  unfold cutB
  rw [hasB_xor, hasB_xor]
  cases hasB n s e.f0 <;> cases hasB n s e.f1 <;> cases hasB n t e.f0 <;> cases hasB n t e.f1 <;> rfl
/-- The value after switching. -/
theorem val_switch (n : Int) (s t : Nat) (l : List S49) : valB n s (switchB n t l) = valB n (s ^^^ t) l - valB n t l := by
  induction l with
  | nil => rfl
  | cons e l ih =>
    show valB n s ((if cutB n t e then (⟨e.f0, e.f1, - e.f2⟩ : S49) else e) :: switchB n t l) = _
    rw [valB, valB, valB, ih, cut_xor]
    cases ht : cutB n t e
    · simp only [Bool.false_eq_true, if_false, Bool.bne_false]
      cases cutB n s e <;> simp only [if_true, if_false, Bool.false_eq_true] <;> omega
    · rw [if_pos rfl]
      have : cutB n s (⟨e.f0, e.f1, - e.f2⟩ : S49) = cutB n s e := rfl
      rw [this]
      cases cutB n s e <;> simp only [if_true, if_false, Bool.false_eq_true, Bool.bne_true, Bool.not_false, Bool.not_true] <;> omega
theorem switch_twice (n : Int) (t : Nat) (l : List S49) : switchB n t (switchB n t l) = l := by
  unfold switchB
  rw [List.map_map]
  conv => rhs; rw [← List.map_id l]
  apply List.map_congr_left
  intro e _
  simp only [Function.comp_apply, id]
  cases ht : cutB n t e
  · simp only [Bool.false_eq_true, if_false, ht]
  · have : cutB n t (⟨e.f0, e.f1, - e.f2⟩ : S49) = true := ht
    simp only [if_true, this, Int.neg_neg]
theorem edgesNe_switch {N : Nat} {l : List S49} (t : Nat) (h : EdgesNe N l) : EdgesNe N (switchB N t l) := by
  intro e he
  unfold switchB at he
  rw [List.mem_map] at he
  obtain ⟨x, hx, rfl⟩ := he
  have := h x hx
  split
  · exact this
  · exact this
/-- The greatest value after switching. -/
theorem best_switch (N : Nat) (h0 : 1 ≤ N) (l : List S49) (hne : EdgesNe N l) (t : Nat) (ht : t < 2 ^ N) :
    (bestB N (switchB N t l) (properB N) (2 ^ N)).2.1 = (bestB N l (properB N) (2 ^ N)).2.1 - valB N t l := by
  obtain ⟨a1, a2, _, a4, _⟩ := best_is N h0 l hne
  obtain ⟨b1, b2, _, b4, _⟩ := best_is N h0 (switchB N t l) (edgesNe_switch t hne)
  generalize bestB N l (properB N) (2 ^ N) = r at a1 a2 a4
  generalize bestB N (switchB N t l) (properB N) (2 ^ N) = q at b1 b2 b4
  have hhalf : 2 ^ (N - 1) ≤ 2 ^ N := Nat.pow_le_pow_right (by omega) (by omega)
  have h1 := a4 (q.1 ^^^ t) (Nat.xor_lt_two_pow (by omega) ht)
  have h2 := b4 (r.1 ^^^ t) (Nat.xor_lt_two_pow (by omega) ht)
  rw [val_switch] at b2 h2
  rw [Nat.xor_assoc, Nat.xor_self, Nat.xor_zero] at h2
  omega

/-- The opposite side, as flips of all vertices. -/
theorem comp_bits (N s t : Nat) (hs : s < 2 ^ N) (ht : t < 2 ^ N) (h : ∀ v : Nat, v < N → hasB N s (v : Int) = hasB N t (v : Int)) : s = t := by
  apply Nat.eq_of_testBit_eq
  intro i
  by_cases hi : i < N
  · have := h (N - 1 - i) (by omega)
    unfold hasB at this
    rwa [show ((N : Int) - 1 - ((N - 1 - i : Nat) : Int)).toNat = i by omega] at this
  · rw [Nat.testBit_lt_two_pow (Nat.lt_of_lt_of_le hs (Nat.pow_le_pow_right (by omega) (by omega))), Nat.testBit_lt_two_pow (Nat.lt_of_lt_of_le ht (Nat.pow_le_pow_right (by omega) (by omega)))]
def compS (N s : Nat) : Nat := 2 ^ N - (s + 1)
theorem compS_lt (N s : Nat) : compS N s < 2 ^ N := by unfold compS; have := Nat.two_pow_pos N; omega
theorem compS_flip (N s i : Nat) (hi : i < N) (hs : s < 2 ^ N) : compS N (flipS N s i) = flipS N (compS N s) i := by
  apply comp_bits N _ _ (compS_lt N _) (flipS_lt N _ i hi (compS_lt N s))
  intro v hv
  unfold compS
  rw [has_flip N _ (flipS_lt N s i hi hs) _ (by omega) (by omega)]
  unfold flipS
  rw [hasB_flip N s i hi _ (by omega) (by omega), hasB_flip N _ i hi _ (by omega) (by omega), has_flip N s hs _ (by omega) (by omega)]
  cases hasB N s (v : Int) <;> cases decide ((v : Int) = (i : Int)) <;> rfl
theorem gain_comp (N s i : Nat) (hs : s < 2 ^ N) (l : List S49) (hne : EdgesNe N l) : gainB N (compS N s) i l = gainB N s i l := by
  induction l with
  | nil => rfl
  | cons e l ih =>
    have h := hne e List.mem_cons_self
    rw [gainB, gainB, ih (fun x hx => hne x (List.mem_cons_of_mem _ hx)), show cutB N (compS N s) e = cutB N s e from cut_comp N s hs e ⟨h.1, h.2.1, h.2.2.1, h.2.2.2.1⟩]
theorem first_comp (N s : Nat) (hs : s < 2 ^ N) (l : List S49) (hne : EdgesNe N l) : firstGain N l (compS N s) = firstGain N l s := by
  unfold firstGain
  congr 1
  funext i
  rw [gain_comp N s i hs l hne]
theorem climb_comp (N : Nat) (l : List S49) (hne : EdgesNe N l) : ∀ (fu s : Nat) (f : Int), s < 2 ^ N → climbB N l fu (compS N s) f = (climbB N l fu s f).map fun r => (compS N r.1, r.2) := by
  intro fu
  induction fu with
  | zero => intro s f _; rfl
  | succ fu ih =>
    intro s f hs
    rw [climbB, climbB, first_comp N s hs l hne]
    cases hv : firstGain N l s with
    | none => rfl
    | some v =>
      have hvN : v < N := by have := List.mem_of_find?_eq_some hv; simpa using this
      have e1 : compS N s ^^^ 2 ^ ((N : Int) - 1 - (v : Int)).toNat = compS N (flipS N s v) := (compS_flip N s v hvN hs).symm
      show climbB N l fu (compS N s ^^^ 2 ^ ((N : Int) - 1 - (v : Int)).toNat) (f + 1) = (climbB N l fu (flipS N s v) (f + 1)).map _
      rw [e1]
      exact ih (flipS N s v) (f + 1) (flipS_lt N s v hvN hs)
/-- A flipped vertex's gain is the opposite. -/
theorem gain_back (N s i : Nat) (hi : i < N) (l : List S49) (hne : EdgesNe N l) : gainB N (flipS N s i) i l = - gainB N s i l := by
  have h1 := gain_flip N s i hi l hne
  have h2 := gain_flip N (flipS N s i) i hi l hne
  have e : flipS N s i ^^^ 2 ^ ((N : Int) - 1 - (i : Int)).toNat = s := by
    unfold flipS; rw [Nat.xor_assoc, Nat.xor_self, Nat.xor_zero]
  rw [e] at h2
  unfold flipS at h2 ⊢
  omega
theorem compS_xor (N s : Nat) (hs : s < 2 ^ N) : s ^^^ (2 ^ N - 1) = compS N s := by
  apply comp_bits N _ _ (Nat.xor_lt_two_pow hs (by have := Nat.two_pow_pos N; omega)) (compS_lt N s)
  intro v hv
  unfold compS
  rw [hasB_xor, has_flip N s hs _ (by omega) (by omega)]
  have : hasB N (2 ^ N - 1) (v : Int) = true := by
    unfold hasB; rw [Nat.testBit_two_pow_sub_one]; simp; omega
  rw [this]; cases hasB N s (v : Int) <;> rfl

end Go.Proofs.Ytkefmlhkejoknaa.L
