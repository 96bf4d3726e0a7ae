/- Plain law: the remainders of a number, how great it becomes, the search for the first number with a course. -/
import Derived.Test.YtkjojcepombhpaaM2
namespace Go.Proofs.Ytkjojcepombhpaa.L
set_option linter.unusedVariables false
set_option linter.unusedSimpArgs false
open Go.Proofs.YtkjojcepombhpaaW.PrintWords
variable {m : Int} {t p : List Int}

theorem iterW_snoc (m : Int) (t p : List Int) (k : Nat) : ∀ x, iterW m t p (k + 1) x = sentW m t p (iterW m t p k x) := by
  induction k with
  | zero => intro x; rfl
  | succ k ih => intro x; exact ih (sentW m t p x)
/-- The first k remainders of a number. -/
def remW (m : Int) (t p : List Int) (x : Int) (k : Nat) : List Int := (List.range k).map fun i => iterW m t p i x % m
theorem remW_length (m : Int) (t p : List Int) (x : Int) (k : Nat) : (remW m t p x k).length = k := by simp [remW]
theorem remW_succ (m : Int) (t p : List Int) (x : Int) (k : Nat) : remW m t p x (k + 1) = remW m t p x k ++ [iterW m t p k x % m] := by simp [remW, List.range_succ]
theorem remW_cons (m : Int) (t p : List Int) (x : Int) (k : Nat) : remW m t p x (k + 1) = x % m :: remW m t p (sentW m t p x) k := by
  simp only [remW, List.range_succ_eq_map, List.map_cons, List.map_map]
  rfl
theorem follows_iff (l : List Int) : ∀ x, followsW m t p l x = true ↔ remW m t p x l.length = l := by
  induction l with
  | nil => intro x; simp [followsW, remW]
  | cons r l ih =>
    intro x
    rw [List.length_cons, remW_cons, followsW, Bool.and_eq_true, ih, beq_iff_eq, List.cons.injEq]
theorem follows_remW (x : Int) (k : Nat) : followsW m t p (remW m t p x k) x = true := by
  rw [follows_iff, remW_length]
theorem remW_course (h : RuleIs m t p) (x : Int) (k : Nat) : CourseIs m (remW m t p x k) := by
  intro r hr
  simp only [remW, List.mem_map] at hr
  obtain ⟨i, _, rfl⟩ := hr
  exact h.rest _
theorem follows_take {l : List Int} {x : Int} (h : followsW m t p l x = true) (k : Nat) : followsW m t p (l.take k) x = true := by
  rw [follows_iff] at h ⊢
  rw [List.length_take, ← h, remW_length]
  apply List.ext_getElem?
  intro i
  simp only [remW, List.getElem?_map, List.getElem?_take]
  by_cases hi : i < k
  · rw [if_pos hi]
    by_cases h2 : i < l.length
    · rw [List.getElem?_range (by omega), List.getElem?_range h2]
    · rw [List.getElem?_eq_none (by simp; omega), List.getElem?_eq_none (by simp; omega)]
  · rw [if_neg hi, List.getElem?_eq_none (by simp; omega)]
    rfl

/-- How great the numbers become that follow a number below the power. -/
theorem iter_bound (h : RuleIs m t p) {x : Int} {k : Nat} (hl : -powW m k ≤ x) (hu : x ≤ powW m k) : ∀ i, i ≤ k → -(20 ^ i * (powW m (k - i) + 4)) ≤ iterW m t p i x ∧ iterW m t p i x ≤ 20 ^ i * (powW m (k - i) + 4) := by
  intro i
  induction i with
  | zero => intro _; simp [iterW]; omega
  | succ i ih =>
    intro hi
    obtain ⟨h1, h2⟩ := ih (by omega)
    rw [iterW_snoc]
    have e := h.mul (iterW m t p i x)
    obtain ⟨r0, r1⟩ := h.rest (iterW m t p i x)
    obtain ⟨t1, t2, _, p1, p2, _⟩ := h.ok _ r0 r1
    have m2 := h.m2
    have ep : powW m (k - i) = m * powW m (k - (i + 1)) := by rw [← powW_succ]; congr 1; omega
    have hp := powW_pos h (k - (i + 1))
    have q := mul_bound t1 t2 h1 h2
    have e20 : (20 : Int) ^ (i + 1) = 20 * 20 ^ i := by rw [Int.pow_succ, Int.mul_comm]
    have h20 := pow_step 20 (by decide) i
    rw [ep] at q
    have q3 : (20 : Int) ^ (i + 1) * (m * powW m (k - (i + 1)) + 4) + 50 ≤ m * (20 ^ (i + 1) * (powW m (k - (i + 1)) + 4)) := by
      have a1 : m * (20 ^ (i + 1) * (powW m (k - (i + 1)) + 4)) = 20 ^ (i + 1) * (m * powW m (k - (i + 1))) + 4 * (m * 20 ^ (i + 1)) := by
        rw [Int.mul_left_comm, Int.mul_add, Int.mul_add]
        congr 1
        rw [← Int.mul_assoc, Int.mul_comm ((20 : Int) ^ (i + 1)) m, Int.mul_comm _ 4]
      have a2 : 2 * (20 : Int) ^ (i + 1) ≤ m * 20 ^ (i + 1) := Int.mul_le_mul_of_nonneg_right m2 (by omega)
      rw [a1, Int.mul_add]
      omega
    have e21 : 20 * ((20 : Int) ^ i * (m * powW m (k - (i + 1)) + 4)) = 20 ^ (i + 1) * (m * powW m (k - (i + 1)) + 4) := by rw [e20, Int.mul_assoc]
    rw [e21] at q
    generalize sentW m t p (iterW m t p i x) = y at *
    generalize rd t (iterW m t p i x % m) * iterW m t p i x = u at *
    generalize (20 : Int) ^ (i + 1) * (powW m (k - (i + 1)) + 4) = B at *
    have hm : 0 < m := by omega
    constructor
    · apply Int.le_of_mul_le_mul_left _ hm
      rw [Int.mul_neg]; omega
    · apply Int.le_of_mul_le_mul_left _ hm
      omega
theorem powW_le6 (h : RuleIs m t p) : ∀ k, powW m k ≤ 6 ^ k := by
  intro k
  induction k with
  | zero => simp [powW]
  | succ k ih =>
    rw [powW_succ, Int.pow_succ, Int.mul_comm]
    exact Int.mul_le_mul ih h.m6 (by have := h.m2; omega) (by have := pow6_pos k; omega)
theorem mid12 : ∀ i : Fin 12, (20 : Int) ^ i.val * (6 ^ (12 - i.val) + 4) ≤ 200000000000000000 := by decide
theorem iter_mid (h : RuleIs m t p) {x : Int} {k : Nat} (hk : k ≤ 12) (hl : -powW m k ≤ x) (hu : x ≤ powW m k) (i : Nat) (hi : i < k) : -200000000000000000 ≤ iterW m t p i x ∧ iterW m t p i x ≤ 200000000000000000 := by
  obtain ⟨h1, h2⟩ := iter_bound h hl hu i (by omega)
  have h3 := mid12 ⟨i, by omega⟩
  have h4 : powW m (k - i) ≤ 6 ^ (12 - i) := Int.le_trans (powW_le6 h _) (pow6_le (by omega))
  have h20 := pow_step 20 (by decide) i
  have h5 : (20 : Int) ^ i * (powW m (k - i) + 4) ≤ 20 ^ i * (6 ^ (12 - i) + 4) := Int.mul_le_mul_of_nonneg_left (by omega) (by omega)
  simp only at h3
  omega
/-- .. of a number of at most seven digits, in at most five steps. -/
theorem iter_mid5 (h : RuleIs m t p) {x : Int} (hl : -20000000 ≤ x) (hu : x ≤ 20000000) (i : Nat) (hi : i ≤ 5) : -200000000000000000 ≤ iterW m t p i x ∧ iterW m t p i x ≤ 200000000000000000 := by
  have key : ∀ i : Nat, -(20000010 * 20 ^ i - 3) ≤ iterW m t p i x ∧ iterW m t p i x ≤ 20000010 * 20 ^ i - 3 := by
    intro i
    induction i with
    | zero => simp [iterW]; omega
    | succ i ih =>
      rw [iterW_snoc]
      obtain ⟨h1, h2⟩ := h.bound ih.1 ih.2
      have e20 : (20 : Int) ^ (i + 1) = 20 * 20 ^ i := by rw [Int.pow_succ, Int.mul_comm]
      have h20 := pow_step 20 (by decide) i
      rw [e20]
      omega
  have h1 := key i
  have h2 := pow20_le hi
  have e : (20 : Int) ^ 5 = 3200000 := by decide
  omega

/-- The first number from x on, in steps of the power, with the course; fuel for the number of steps. -/
def findW (m : Int) (t p l : List Int) (st : Int) : Nat → Int → Int
  | 0, x => x
  | f + 1, x => if followsW m t p l x then x else findW m t p l st f (x + st)
/-- The first number with the first k remainders of a course. -/
def startW (m : Int) (t p l : List Int) : Nat → Int
  | 0 => 0
  | k + 1 => findW m t p (l.take (k + 1)) (powW m k) 6 (startW m t p l k)
/-- Where the search ends. -/
theorem find_ends (h : RuleIs m t p) {l : List Int} {r x : Int} (hx : followsW m t p l x = true) (hl : CourseIs m l) (hr : 0 ≤ r ∧ r < m) : ∃ j : Nat, (j : Int) < m ∧ followsW m t p (l ++ [r]) (x + powW m l.length * j) = true ∧ ∀ i : Nat, i < j → followsW m t p (l ++ [r]) (x + powW m l.length * i) = false := by
  obtain ⟨j, j0, j1, hj⟩ := step_exists h (prodW_gcd h hl) (iterW m t p l.length x) r hr
  have key : ∀ i : Int, followsW m t p (l ++ [r]) (x + powW m l.length * i) = ((iterW m t p l.length x + prodW t l * i) % m == r) := by
    intro i
    obtain ⟨f1, f2⟩ := follows_shift h l x i hx
    rw [follows_snoc, f1, f2, Bool.true_and]
  have hex : ∃ n : Nat, (n : Int) < m ∧ ((iterW m t p l.length x + prodW t l * n) % m == r) = true := ⟨j.toNat, by omega, by rw [Int.toNat_of_nonneg j0, hj]; simp⟩
  have least : ∀ n : Nat, (∃ j : Nat, j ≤ n ∧ ((iterW m t p l.length x + prodW t l * j) % m == r) = true) → ∃ j : Nat, j ≤ n ∧ ((iterW m t p l.length x + prodW t l * j) % m == r) = true ∧ ∀ i : Nat, i < j → ((iterW m t p l.length x + prodW t l * i) % m == r) = false := by
    intro n
    induction n with
    | zero =>
      rintro ⟨j, hj, h⟩
      exact ⟨j, hj, h, fun i hi => by omega⟩
    | succ n ih =>
      rintro ⟨j, hj, h⟩
      by_cases hn : ∃ j : Nat, j ≤ n ∧ ((iterW m t p l.length x + prodW t l * j) % m == r) = true
      · obtain ⟨j, h1, h2, h3⟩ := ih hn
        exact ⟨j, by omega, h2, h3⟩
      · refine ⟨j, hj, h, fun i hi => ?_⟩
        cases hq : ((iterW m t p l.length x + prodW t l * (i : Int)) % m == r)
        · rfl
        · exact absurd ⟨i, by omega, hq⟩ hn
  obtain ⟨n, hn, hq⟩ := hex
  obtain ⟨j, h1, h2, h3⟩ := least n ⟨n, Nat.le_refl _, hq⟩
  exact ⟨j, by omega, by rw [key]; exact h2, fun i hi => by rw [key]; exact h3 i hi⟩
theorem findW_at (m : Int) (t p l : List Int) (st : Int) (j : Nat) : ∀ (f : Nat) (x : Int), j < f → followsW m t p l (x + st * j) = true → (∀ i : Nat, i < j → followsW m t p l (x + st * i) = false) → findW m t p l st f x = x + st * j := by
  induction j with
  | zero =>
    intro f x hf hx _
    obtain ⟨g, rfl⟩ : ∃ g, f = g + 1 := ⟨f - 1, by omega⟩
    simp only [Int.natCast_zero, Int.mul_zero, Int.add_zero] at hx ⊢
    rw [findW, if_pos hx]
  | succ j ih =>
    intro f x hf hx hno
    obtain ⟨g, rfl⟩ : ∃ g, f = g + 1 := ⟨f - 1, by omega⟩
    have h0 := hno 0 (by omega)
    simp only [Int.natCast_zero, Int.mul_zero, Int.add_zero] at h0
    have e : ∀ i : Nat, x + st + st * (i : Int) = x + st * ((i + 1 : Nat) : Int) := by
      intro i
      rw [Int.natCast_add, Int.mul_add, Int.natCast_one, Int.mul_one]
      omega
    rw [findW, if_neg (by rw [h0]; decide), ih g (x + st) (by omega) (by rw [e]; exact hx) (fun i hi => by rw [e]; exact hno (i + 1) (by omega)), e]
/-- Start's number has the course, and is below the power. -/
theorem startW_spec (h : RuleIs m t p) {l : List Int} (hl : CourseIs m l) : ∀ k, k ≤ l.length → followsW m t p (l.take k) (startW m t p l k) = true ∧ 0 ≤ startW m t p l k ∧ startW m t p l k < powW m k := by
  intro k
  induction k with
  | zero => intro _; simp [startW, followsW, powW]
  | succ k ih =>
    intro hk
    obtain ⟨h1, h2, h3⟩ := ih (by omega)
    have hlen : (l.take k).length = k := by rw [List.length_take]; omega
    have et := take_succ_rd l k (by omega)
    have hr := CourseIs.at (l := l) (n := l.length) (k := k) (by rw [List.take_length]; exact hl) (by omega) (Nat.le_refl _)
    obtain ⟨j, j1, hj, hno⟩ := find_ends h h1 (hl.take k) hr
    rw [hlen, ← et] at hj hno
    have m6 := h.m6
    have e : startW m t p l (k + 1) = startW m t p l k + powW m k * j := findW_at m t p (l.take (k + 1)) (powW m k) j 6 _ (by omega) hj hno
    rw [e]
    have hp := powW_pos h k
    refine ⟨hj, by have := Int.mul_nonneg (show 0 ≤ powW m k by omega) (show (0 : Int) ≤ j by omega); omega, ?_⟩
    rw [powW_succ]
    have : powW m k * j ≤ powW m k * (m - 1) := Int.mul_le_mul_of_nonneg_left (by omega) (by omega)
    rw [Int.mul_sub, Int.mul_one, Int.mul_comm (powW m k) m] at this
    omega
/-- It is the only one. -/
theorem start_unique (h : RuleIs m t p) {l : List Int} {x y : Int} (hx : followsW m t p l x = true) (hy : followsW m t p l y = true) (x0 : 0 ≤ x) (x1 : x < powW m l.length) (y0 : 0 ≤ y) (y1 : y < powW m l.length) : x = y := by
  have hd := follows_apart h l x y hx hy
  obtain ⟨c, hc⟩ := hd
  have hp := powW_pos h l.length
  generalize powW m l.length = P at *
  rcases Int.lt_trichotomy c 0 with hc0 | hc0 | hc0
  · have : P * c ≤ P * (-1) := Int.mul_le_mul_of_nonneg_left (by omega) (by omega)
    omega
  · subst hc0
    rw [Int.mul_zero] at hc
    omega
  · have : P * 1 ≤ P * c := Int.mul_le_mul_of_nonneg_left (by omega) (by omega)
    omega
end Go.Proofs.Ytkjojcepombhpaa.L
