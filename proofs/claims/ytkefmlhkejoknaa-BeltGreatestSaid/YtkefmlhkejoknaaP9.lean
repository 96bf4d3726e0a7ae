import Derived.Test.YtkefmlhkejoknaaP4

/- Plain law: a graph without a coloring by two colors has a simple odd cycle. -/
namespace Go.Proofs.Ytkefmlhkejoknaa.L
set_option linter.unusedVariables false
set_option linter.unusedSimpArgs false

/-- A walk of k steps. -/
def Tr (J : Int → Int → Prop) (k : Nat) (a b : Int) : Prop := ∃ p : Nat → Int, p 0 = a ∧ p k = b ∧ ∀ i, i < k → J (p i) (p (i + 1))
theorem Tr.nil (J : Int → Int → Prop) (a : Int) : Tr J 0 a a := ⟨fun _ => a, rfl, rfl, fun i h => by omega⟩
theorem Tr.one {J : Int → Int → Prop} {a b : Int} (h : J a b) : Tr J 1 a b := ⟨fun i => if i = 0 then a else b, rfl, rfl, fun i hi => by
  obtain rfl : i = 0 := by omega
  exact h⟩
theorem Tr.append {J : Int → Int → Prop} {k m : Nat} {a b c : Int} (h1 : Tr J k a b) (h2 : Tr J m b c) : Tr J (k + m) a c := by
  obtain ⟨p, p0, pk, hp⟩ := h1
  obtain ⟨q, q0, qm, hq⟩ := h2
  refine ⟨fun i => if i ≤ k then p i else q (i - k), ?_, ?_, fun i hi => ?_⟩
  · simp [p0]
  · by_cases hm : m = 0
    · subst hm; simp only [Nat.add_zero, Nat.le_refl, if_true]; rw [pk, ← q0]; exact qm
    · show (if k + m ≤ k then p (k + m) else q (k + m - k)) = c
      rw [if_neg (by omega), show k + m - k = m by omega]; exact qm
  · by_cases h1 : i + 1 ≤ k
    · simp only [show i ≤ k by omega, h1, if_true]; exact hp i (by omega)
    · by_cases h2 : i ≤ k
      · obtain rfl : i = k := by omega
        simp only [Nat.le_refl, if_true, h1, if_false]
        rw [pk, ← q0, show i + 1 - i = 0 + 1 by omega]
        exact hq 0 (by omega)
      · simp only [h1, h2, if_false]
        rw [show i + 1 - k = i - k + 1 by omega]
        exact hq (i - k) (by omega)
theorem Tr.rev {J : Int → Int → Prop} (hs : ∀ a b, J a b → J b a) {k : Nat} {a b : Int} (h : Tr J k a b) : Tr J k b a := by
  obtain ⟨p, p0, pk, hp⟩ := h
  refine ⟨fun i => p (k - i), by simpa using pk, by simpa using p0, fun i hi => ?_⟩
  have := hp (k - (i + 1)) (by omega)
  rw [show k - (i + 1) + 1 = k - i by omega] at this
  exact hs _ _ this
theorem Tr.sub {J : Int → Int → Prop} {k : Nat} {p : Nat → Int} (hp : ∀ i, i < k → J (p i) (p (i + 1))) (i j : Nat) (hij : i ≤ j) (hj : j ≤ k) : Tr J (j - i) (p i) (p j) :=
  ⟨fun t => p (i + t), rfl, by show p (i + (j - i)) = p j; rw [show i + (j - i) = j by omega], fun t ht => hp (i + t) (by omega)⟩

theorem least (P : Nat → Prop) (h : ∃ k, P k) : ∃ k, P k ∧ ∀ j, j < k → ¬ P j := by
  obtain ⟨k, hk⟩ := h
  induction k using Nat.strongRecOn with
  | ind k ih =>
    by_cases c : ∃ j, j < k ∧ P j
    · obtain ⟨j, hj, hp⟩ := c
      exact ih j hj hp
    · exact ⟨k, hk, fun j hj hp => c ⟨j, hj, hp⟩⟩

/-- The place of the smallest one of k numbers. -/
theorem argmin (q : Nat → Int) (k : Nat) (hk : 0 < k) : ∃ m, m < k ∧ ∀ i, i < k → q m ≤ q i := by
  induction k with
  | zero => omega
  | succ k ih =>
    by_cases hz : k = 0
    · subst hz
      refine ⟨0, by omega, fun i hi => ?_⟩
      obtain rfl : i = 0 := by omega
      exact Int.le_refl _
    · obtain ⟨m, hm, h⟩ := ih (by omega)
      by_cases c : q m ≤ q k
      · exact ⟨m, by omega, fun i hi => by
          by_cases e : i = k
          · subst e; exact c
          · exact h i (by omega)⟩
      · exact ⟨k, by omega, fun i hi => by
          by_cases e : i = k
          · subst e; exact Int.le_refl _
          · have := h i (by omega); omega⟩

/-- No odd closed walk: two colors. -/
theorem two_colors {J : Int → Int → Prop} (hs : ∀ a b, J a b → J b a) (hb : ∀ a b, J a b → 0 ≤ a) (hno : ∀ k a, k % 2 = 1 → ¬ Tr J k a a) :
    ∃ col : Int → Bool, ∀ a b, J a b → col a ≠ col b := by
  classical
  -- the smallest number from which v is reached
  let R : Int → Nat → Prop := fun v u => ∃ k, Tr J k (u : Int) v
  let col : Int → Bool := fun v => decide (∃ u k, R v u ∧ (∀ j, j < u → ¬ R v j) ∧ k % 2 = 0 ∧ Tr J k (u : Int) v)
  refine ⟨col, fun a b hab => ?_⟩
  have ha0 := hb a b hab
  obtain ⟨A, rfl⟩ := Int.eq_ofNat_of_zero_le ha0
  have hRb : ∀ u, R (A : Int) u → R b u := fun u ⟨k, h⟩ => ⟨k + 1, h.append (Tr.one hab)⟩
  have hRa : ∀ u, R b u → R (A : Int) u := fun u ⟨k, h⟩ => ⟨k + 1, h.append (Tr.one (hs _ _ hab))⟩
  obtain ⟨u, hu, hmin⟩ := least (R (A : Int)) ⟨A, 0, Tr.nil J A⟩
  have hmin' : ∀ j, j < u → ¬ R b j := fun j hj h => hmin j hj (hRa j h)
  have huniq : ∀ v, R v u → (∀ j, j < u → ¬ R v j) → ∀ u', R v u' → (∀ j, j < u' → ¬ R v j) → u' = u := fun v h1 h2 u' h3 h4 => by
    rcases Nat.lt_trichotomy u' u with h | h | h
    · exact absurd h3 (h2 u' h)
    · exact h
    · exact absurd h1 (h4 u h)
  obtain ⟨k, hk⟩ := hu
  have hkb : Tr J (k + 1) u b := hk.append (Tr.one hab)
  by_cases hpar : k % 2 = 0
  · have h1 : col (A : Int) = true := decide_eq_true ⟨u, k, ⟨k, hk⟩, hmin, hpar, hk⟩
    have h2 : col b = false := by
      apply decide_eq_false
      rintro ⟨u', k', hr', hm', hp', hw'⟩
      have := huniq b ⟨_, hkb⟩ hmin' u' hr' hm'
      subst this
      exact hno (k + 1 + k') u' (by omega) (hkb.append (hw'.rev hs))
    rw [h1, h2]; simp
  · have h1 : col (A : Int) = false := by
      apply decide_eq_false
      rintro ⟨u', k', hr', hm', hp', hw'⟩
      have := huniq (A : Int) ⟨_, hk⟩ hmin u' hr' hm'
      subst this
      exact hno (k + k') u' (by omega) (hk.append (hw'.rev hs))
    have h2 : col b = true := decide_eq_true ⟨u, k + 1, ⟨_, hkb⟩, hmin', by omega, hkb⟩
    rw [h1, h2]; simp

/-- A simple odd cycle, written from its smallest vertex in the smaller direction. -/
def OddCyc (J : Int → Int → Prop) (k : Nat) (q : Nat → Int) : Prop :=
  k % 2 = 1 ∧ 3 ≤ k ∧ (∀ i, J (q i) (q (i + 1))) ∧ (∀ i, q (i + k) = q i) ∧ (∀ i j, i < j → j < k → q i ≠ q j) ∧ (∀ i, 0 < i → i < k → q 0 < q i) ∧ q 1 < q (k - 1)

theorem period_mul {q : Nat → Int} {k : Nat} (h : ∀ i, q (i + k) = q i) (i m : Nat) : q (i + k * m) = q i := by
  induction m with
  | zero => rfl
  | succ m ih => rw [Nat.mul_succ, ← Nat.add_assoc, h, ih]
theorem period_mod {q : Nat → Int} {k : Nat} (h : ∀ i, q (i + k) = q i) (i : Nat) : q (i % k) = q i := by
  have := period_mul h (i % k) (i / k)
  rw [Nat.mod_add_div] at this
  exact this.symm
theorem period_inj {q : Nat → Int} {k : Nat} (hk : 0 < k) (h : ∀ i, q (i + k) = q i) (hd : ∀ i j, i < j → j < k → q i ≠ q j) (i j : Nat) (he : q i = q j) : i % k = j % k := by
  rw [← period_mod h i, ← period_mod h j] at he
  have h1 := Nat.mod_lt i hk
  have h2 := Nat.mod_lt j hk
  rcases Nat.lt_trichotomy (i % k) (j % k) with c | c | c
  · exact absurd he (hd _ _ c h2)
  · exact c
  · exact absurd he.symm (hd _ _ c h1)

/-- An odd closed walk: a simple odd cycle. -/
theorem odd_cycle {J : Int → Int → Prop} (hs : ∀ a b, J a b → J b a) (hi : ∀ a, ¬ J a a) (h : ∃ k a, k % 2 = 1 ∧ Tr J k a a) : ∃ k q, OddCyc J k q := by
  obtain ⟨k, ⟨a, hk, p, p0, pk, hp⟩, hmin⟩ := least (fun k => ∃ a, k % 2 = 1 ∧ Tr J k a a) h
  have hk3 : 3 ≤ k := by
    by_cases c : k = 1
    · subst c
      exfalso
      have := hp 0 (by omega)
      rw [p0, pk] at this
      exact hi a this
    · omega
  have hd : ∀ i j, i < j → j < k → p i ≠ p j := by
    intro i j hij hj he
    have t1 : Tr J (j - i) (p i) (p i) := by
      have := Tr.sub hp i j (by omega) (by omega)
      rw [← he] at this
      exact this
    have t2 : Tr J (i + (k - j)) a a := by
      have u1 := Tr.sub hp 0 i (by omega) (by omega)
      have u2 := Tr.sub hp j k (by omega) (by omega)
      rw [← he, pk] at u2
      rw [p0] at u1
      exact u1.append u2
    by_cases c : (j - i) % 2 = 1
    · exact hmin _ (by omega) ⟨_, c, t1⟩
    · exact hmin _ (by omega) ⟨_, by omega, t2⟩
  -- around and around
  have P1 : ∃ P : Nat → Int, (∀ i, P (i + k) = P i) ∧ (∀ i, J (P i) (P (i + 1))) ∧ (∀ i j, i < j → j < k → P i ≠ P j) := by
    refine ⟨fun i => p (i % k), fun i => by simp, fun i => ?_, fun i j hij hj => ?_⟩
    · have hlt := Nat.mod_lt i (show 0 < k by omega)
      have := hp (i % k) hlt
      by_cases c : i % k + 1 = k
      · have e : (i + 1) % k = 0 := by rw [← Nat.mod_add_mod, c, Nat.mod_self]
        show J (p (i % k)) (p ((i + 1) % k))
        rw [e, p0, ← pk, ← c]
        rw [c]; rw [c] at this; exact this
      · have e : (i + 1) % k = i % k + 1 := by rw [← Nat.mod_add_mod, Nat.mod_eq_of_lt (by omega)]
        show J (p (i % k)) (p ((i + 1) % k))
        rw [e]; exact this
    · show p (i % k) ≠ p (j % k)
      rw [Nat.mod_eq_of_lt (by omega), Nat.mod_eq_of_lt hj]
      exact hd i j hij hj
  obtain ⟨P, Pk, PJ, Pd⟩ := P1
  obtain ⟨m, hm, hmm⟩ := argmin P k (by omega)
  -- from the smallest one
  have Q1 : ∃ Q : Nat → Int, (∀ i, Q (i + k) = Q i) ∧ (∀ i, J (Q i) (Q (i + 1))) ∧ (∀ i j, i < j → j < k → Q i ≠ Q j) ∧ (∀ i, 0 < i → i < k → Q 0 < Q i) := by
    have hd' : ∀ i j, i < j → j < k → P (m + i) ≠ P (m + j) := fun i j hij hj he => by
      have := period_inj (by omega) Pk Pd _ _ he
      have h1 := Nat.sub_mod_eq_zero_of_mod_eq this.symm
      rw [show m + j - (m + i) = j - i by omega, Nat.mod_eq_of_lt (by omega)] at h1
      omega
    refine ⟨fun i => P (m + i), fun i => by show P (m + (i + k)) = _; rw [← Nat.add_assoc, Pk], fun i => PJ (m + i), hd', fun i h0 hik => ?_⟩
    have h1 : P m ≤ P (m + i) := by
      rw [← period_mod Pk (m + i)]
      exact hmm _ (Nat.mod_lt _ (by omega))
    have h2 := hd' 0 i h0 hik
    simp only [Nat.add_zero] at h2 ⊢
    omega
  obtain ⟨Q, Qk, QJ, Qd, Q0⟩ := Q1
  by_cases c : Q 1 < Q (k - 1)
  · exact ⟨k, Q, hk, hk3, QJ, Qk, Qd, Q0, c⟩
  · -- the other direction
    have hne := Qd 1 (k - 1) (by omega) (by omega)
    have back : ∀ i, i ≤ k → Q ((k - 1) * i) = Q (k - i) := by
      intro i hik
      have e : (k - 1) * i + k * 1 = (k - i) + k * i := by
        have : (k - 1) * i = k * i - i := by rw [Nat.sub_mul, Nat.one_mul]
        have : i ≤ k * i := Nat.le_mul_of_pos_left i (by omega)
        omega
      rw [← period_mul Qk ((k - 1) * i) 1, e, period_mul Qk]
    refine ⟨k, fun i => Q ((k - 1) * i), hk, hk3, fun i => ?_, fun i => ?_, fun i j hij hj => ?_, fun i h0 hik => ?_, ?_⟩
    · show J (Q ((k - 1) * i)) (Q ((k - 1) * (i + 1)))
      have := QJ ((k - 1) * (i + 1))
      rw [show (k - 1) * (i + 1) + 1 = (k - 1) * i + k by rw [Nat.mul_succ]; omega, Qk] at this
      exact hs _ _ this
    · show Q ((k - 1) * (i + k)) = Q ((k - 1) * i)
      rw [Nat.mul_add, Nat.mul_comm (k - 1) k, period_mul Qk]
    · show Q ((k - 1) * i) ≠ Q ((k - 1) * j)
      rw [back i (by omega), back j (by omega)]
      by_cases hz : i = 0
      · subst hz
        rw [show k - 0 = 0 + k by omega, Qk]
        have := Q0 (k - j) (by omega) (by omega)
        omega
      · exact fun e => Qd (k - j) (k - i) (by omega) (by omega) e.symm
    · show Q ((k - 1) * 0) < Q ((k - 1) * i)
      rw [back i (by omega)]
      exact Q0 _ (by omega) (by omega)
    · show Q ((k - 1) * 1) < Q ((k - 1) * (k - 1))
      rw [back 1 (by omega), back (k - 1) (by omega), show k - (k - 1) = 1 by omega]
      omega

theorem colors_or_cycle {J : Int → Int → Prop} (hs : ∀ a b, J a b → J b a) (hi : ∀ a, ¬ J a a) (hb : ∀ a b, J a b → 0 ≤ a) :
    (∃ col : Int → Bool, ∀ a b, J a b → col a ≠ col b) ∨ ∃ k q, OddCyc J k q := by
  by_cases c : ∃ k a, k % 2 = 1 ∧ Tr J k a a
  · exact .inr (odd_cycle hs hi c)
  · exact .inl (two_colors hs hb (fun k a h1 h2 => c ⟨k, a, h1, h2⟩))

/-- Different numbers below n are at most n. -/
theorem nodup_le : ∀ (n : Nat) (xs : List Int), xs.Nodup → (∀ x ∈ xs, 0 ≤ x ∧ x < n) → xs.length ≤ n := by
  intro n
  induction n with
  | zero =>
    intro xs _ h
    cases xs with
    | nil => simp
    | cons a l => have := h a (by simp); omega
  | succ n ih =>
    intro xs hd h
    have h1 := ih (xs.erase (n : Int)) (hd.erase _) (fun x hx => by
      rw [List.Nodup.mem_erase_iff hd] at hx
      have := h x hx.2
      omega)
    rw [List.length_erase] at h1
    split at h1 <;> omega
/-- An odd cycle has no two colors. -/
theorem cycle_uncut (k : Nat) (hk : k % 2 = 1) (c : Nat → Bool) (hc : c k = c 0) : ∃ i, i < k ∧ c i = c (i + 1) := by
  by_cases h : ∃ i, i < k ∧ c i = c (i + 1)
  · exact h
  · exfalso
    have h' : ∀ i, i < k → c (i + 1) = !c i := fun i hi => by
      have : ¬ c i = c (i + 1) := fun e => h ⟨i, hi, e⟩
      cases h1 : c i <;> cases h2 : c (i + 1) <;> simp_all
    have : ∀ i, i ≤ k → c i = (c 0 ^^ decide (i % 2 = 1)) := by
      intro i
      induction i with
      | zero => intro _; simp
      | succ i ih =>
        intro hi
        rw [h' i (by omega), ih (by omega)]
        by_cases e : i % 2 = 1
        · rw [decide_eq_true e, decide_eq_false (by omega)]; cases c 0 <;> rfl
        · rw [decide_eq_false e, decide_eq_true (by omega)]; cases c 0 <;> rfl
    have := this k (Nat.le_refl _)
    rw [hc, decide_eq_true hk] at this
    cases h0 : c 0 <;> rw [h0] at this <;> cases this

end Go.Proofs.Ytkefmlhkejoknaa.L

/- Plain law: without a side that cuts every edge the visited cycles hold an odd one. -/
namespace Go.Proofs.Ytkefmlhkejoknaa.L
set_option linter.unusedVariables false
set_option linter.unusedSimpArgs false
open Go.RowKit Go.Proofs.YtkefmlhkejoknaaW.PrintWords Go.Proofs.YtkefmlhkejoknaaW.PrintLast Go.Proofs.YtkefmlhkejoknaaW.PrintMore

/-- Joined. -/
def JB (l : List S49) (a b : Int) : Prop := joinedB l a b = true
theorem hasEdge_iff (l : List S49) (a b : Int) : hasEdge l a b = true ↔ ∃ e ∈ l, e.f0 = a ∧ e.f1 = b := by
  simp [hasEdge, List.any_eq_true, and_comm]
theorem JB_iff (l : List S49) (a b : Int) : JB l a b ↔ ∃ e ∈ l, (e.f0 = a ∧ e.f1 = b ∧ a ≤ b) ∨ (e.f0 = b ∧ e.f1 = a ∧ b ≤ a) := by
  unfold JB joinedB
  rw [hasEdge_iff]
  constructor
  · rintro ⟨e, he, h0, h1⟩
    refine ⟨e, he, ?_⟩
    by_cases c : a ≤ b
    · rw [if_pos c] at h0 h1; exact .inl ⟨h0, h1, c⟩
    · rw [if_neg c] at h0 h1; exact .inr ⟨h0, h1, by omega⟩
  · rintro ⟨e, he, ⟨h0, h1, c⟩ | ⟨h0, h1, c⟩⟩
    · exact ⟨e, he, by rw [if_pos c]; exact h0, by rw [if_pos c]; exact h1⟩
    · by_cases c' : a ≤ b
      · exact ⟨e, he, by rw [if_pos c']; omega, by rw [if_pos c']; omega⟩
      · exact ⟨e, he, by rw [if_neg c']; exact h0, by rw [if_neg c']; exact h1⟩
theorem JB_symm (l : List S49) (a b : Int) (h : JB l a b) : JB l b a := by
  rw [JB_iff] at h ⊢
  obtain ⟨e, he, h | h⟩ := h
  · exact ⟨e, he, .inr h⟩
  · exact ⟨e, he, .inl h⟩
/-- The edges run upwards, within the vertices. -/
def UpIn (n : Int) (l : List S49) : Prop := ∀ e ∈ l, 0 ≤ e.f0 ∧ e.f0 < e.f1 ∧ e.f1 < n
theorem JB_irrefl {n : Int} {l : List S49} (hU : UpIn n l) (a : Int) : ¬ JB l a a := by
  rw [JB_iff]
  rintro ⟨e, he, ⟨h0, h1, _⟩ | ⟨h0, h1, _⟩⟩ <;> have := hU e he <;> omega
theorem JB_in {n : Int} {l : List S49} (hU : UpIn n l) (a b : Int) (h : JB l a b) : 0 ≤ a ∧ a < n := by
  rw [JB_iff] at h
  obtain ⟨e, he, ⟨h0, h1, _⟩ | ⟨h0, h1, _⟩⟩ := h <;> have := hU e he <;> omega

/-- A number with given bits. -/
def bitsN (f : Nat → Bool) : Nat → Nat
  | 0 => 0
  | k + 1 => if f k then 2 ^ k + bitsN f k else bitsN f k
theorem bitsN_lt (f : Nat → Bool) (k : Nat) : bitsN f k < 2 ^ k := by
  induction k with
  | zero => simp [bitsN]
  | succ k ih =>
    rw [bitsN, Nat.pow_succ]
    split <;> omega
theorem bitsN_test (f : Nat → Bool) (k i : Nat) (h : i < k) : (bitsN f k).testBit i = f i := by
  induction k with
  | zero => omega
  | succ k ih =>
    rw [bitsN]
    by_cases e : i = k
    · subst e
      cases c : f i
      · rw [if_neg (by decide)]; exact Nat.testBit_lt_two_pow (bitsN_lt f i)
      · rw [if_pos rfl, Nat.testBit_two_pow_add_eq, Nat.testBit_lt_two_pow (bitsN_lt f i)]; rfl
    · rw [← ih (by omega)]
      split
      · exact Nat.testBit_two_pow_add_gt (by omega) _
      · rfl
/-- Two colors are a side that cuts all edges. -/
theorem colors_cut {N : Nat} {l : List S49} (hU : UpIn N l) (col : Int → Bool) (hc : ∀ a b, JB l a b → col a ≠ col b) : ∃ s, s < 2 ^ N ∧ allCut N l s = true := by
  have hh : ∀ v : Int, 0 ≤ v → v < N → hasB N (bitsN (fun i => col ((N : Int) - 1 - (i : Int))) N) v = col v := by
    intro v h0 h1
    rw [hasB, bitsN_test _ _ _ (by omega)]
    congr 1; omega
  refine ⟨bitsN (fun i => col ((N : Int) - 1 - (i : Int))) N, bitsN_lt _ _, ?_⟩
  rw [allCut, List.all_eq_true]
  intro e he
  have hu := hU e he
  rw [cutB, hh _ (by omega) (by omega), hh _ (by omega) (by omega), bne_iff_ne]
  exact hc _ _ ((JB_iff _ _ _).2 ⟨e, he, .inl ⟨rfl, rfl, by omega⟩⟩)

theorem map_getLast (q : Nat → Int) (j : Nat) (d : Int) : ((List.range (j + 1)).map q).getLastD d = q j := by
  rw [List.range_succ, List.map_append]; simp
theorem map_head (q : Nat → Int) (j : Nat) (d : Int) : ((List.range (j + 1)).map q).headD d = q 0 := by
  rw [List.range_succ_eq_map]; simp
/-- A simple odd cycle is found. -/
theorem cyc_found {N : Nat} {l : List S49} (hU : UpIn N l) {k : Nat} {q : Nat → Int} (h : OddCyc (JB l) k q) : ∀ d j : Nat, j + d + 1 = k → (List.range k).map q ∈ cycB N l k d ((List.range (j + 1)).map q) := by
  obtain ⟨hk, hk3, hJ, hp, hd, h0, h1⟩ := h
  intro d
  induction d with
  | zero =>
    intro j hj
    obtain rfl : k = j + 1 := by omega
    rw [cycB, if_neg]
    · simp
    · rw [map_getLast, map_head]
      have e1 : ((List.range (j + 1)).map q).getD 1 0 = q 1 := by
        rw [List.getD_eq_getElem?_getD, List.getElem?_map, List.getElem?_range (by omega)]; rfl
      have e2 : joinedB l (q 0) (q j) = true := by
        have := hJ j
        rw [show q (j + 1) = q 0 by have := hp 0; rwa [Nat.zero_add] at this] at this
        exact JB_symm _ _ _ this
      rw [e1, e2]
      simp only [show j + 1 - 1 = j by omega] at h1
      simp
      omega
  | succ d ih =>
    intro j hj
    rw [cycB, List.mem_flatMap]
    have hin := JB_in hU _ _ (hJ (j + 1))
    have hgt := h0 (j + 1) (by omega) (by omega)
    have hin0 := JB_in hU _ _ (hJ 0)
    refine ⟨q (j + 1), ?_, ?_⟩
    · rw [List.mem_map, map_head]
      exact ⟨(q (j + 1) - q 0 - 1).toNat, by rw [List.mem_range]; omega, by omega⟩
    · rw [map_getLast, if_pos]
      · have := ih (j + 1) (by omega)
        rwa [List.range_succ, List.map_append] at this
      · rw [Bool.and_eq_true]
        refine ⟨hJ j, ?_⟩
        rw [Bool.not_eq_true', Bool.eq_false_iff]
        intro hm
        rw [List.contains_iff_mem, List.mem_map] at hm
        obtain ⟨i, hi, he⟩ := hm
        rw [List.mem_range] at hi
        exact hd i (j + 1) hi (by omega) he
theorem odd_le {N : Nat} {l : List S49} (hU : UpIn N l) {k : Nat} {q : Nat → Int} (h : OddCyc (JB l) k q) : k ≤ N := by
  obtain ⟨hk, hk3, hJ, hp, hd, h0, h1⟩ := h
  have := nodup_le N ((List.range k).map q) (by
    rw [List.Nodup, List.pairwise_map]
    refine List.Pairwise.imp_of_mem ?_ (List.pairwise_lt_range)
    intro a b ha hb hab
    exact hd a b hab (by simpa using hb)) (fun x hx => by
    rw [List.mem_map] at hx
    obtain ⟨i, _, rfl⟩ := hx
    exact JB_in hU _ _ (hJ i))
  simpa using this
theorem cycles_found {N : Nat} {l : List S49} (hU : UpIn N l) {k : Nat} {q : Nat → Int} (h : OddCyc (JB l) k q) : (List.range k).map q ∈ cyclesB N l k := by
  have h3 : 3 ≤ k := h.2.1
  have hin := JB_in hU _ _ (h.2.2.1 0)
  have := cyc_found hU h (k - 1) 0 (by omega)
  rw [cyclesB, List.mem_flatMap]
  refine ⟨(q 0).toNat, by rw [List.mem_range]; omega, ?_⟩
  have e : ((q 0).toNat : Int) = q 0 := by omega
  rw [e]
  exact this
/-- Without a side that cuts every edge there is an odd cycle. -/
theorem odd_exists {N : Nat} {l : List S49} (hU : UpIn N l) (hno : ∀ s, s < 2 ^ N → allCut N l s = false) : ∃ k, k % 2 = 1 ∧ 3 ≤ k ∧ k ≤ N ∧ cyclesB N l k ≠ [] := by
  rcases colors_or_cycle (JB_symm l) (JB_irrefl hU) (fun a b h => (JB_in hU a b h).1) with ⟨col, hc⟩ | ⟨k, q, h⟩
  · obtain ⟨s, hs, h1⟩ := colors_cut hU col hc
    rw [hno s hs] at h1; cases h1
  · exact ⟨k, h.1, h.2.1, odd_le hU h, List.ne_nil_of_mem (cycles_found hU h)⟩

end Go.Proofs.Ytkefmlhkejoknaa.L
